-- Printed by a program of the session (wip/tools/pgen.py) out of the translation. Not trusted: Lean checks it.
import Derived.Test.YtkiacoilecdepaaDoorPAllx0
import Derived.Test.YtkiacoilecdepaaDoorPAllx1
import Derived.Test.YtkiacoilecdepaaDoorPAllx3
import Derived.Test.YtkiacoilecdepaaDoorPAllx5
import Derived.Test.YtkiacoilecdepaaDoorPAllx7
import Derived.Test.YtkiacoilecdepaaDoorPAllx18
namespace Go.Proofs.YtkiacoilecdepaaDoor.PAll
open Go.RowKit Go.Proofs.YtkiacoilecdepaaDoor.T Go.Proofs.YtkiacoilecdepaaDoorW.PrintWords Go.Proofs.YtkiacoilecdepaaDoorW.PrintLast Go.Proofs.YtkiacoilecdepaaDoorW.PrintMore
attribute [local go_sem] max2_int min2_int max_two min_two max_three min_three max_four min_four   -- for this text's walks alone
set_option linter.unusedVariables false
set_option linter.unusedSimpArgs false

/-! ### impl_PrefixAt: function 31 -/
def impl_PrefixAt.l0 : Nat → Int → List Int → List Int → Int → Int → Int → List Int → Option (List Int × Int)
 | 0, _, _, _, _, _, _, _ => none
 | k + 1, x2, x9, x34, x35, x36, x532000, x532001 => if x36 < x35 then (if 0 ≤ x36 then (if x36 < (x34.length : Int) then (if (Go.bits .andNot .i64 (rd x34 x36) x2) = 0 then (impl_PrefixAt.l0 k x2 x9 x34 x35 (wrap64 (x36 + 1)) x532000 x532001) else (some (([] : List Int), 5))) else (none)) else (none)) else ((impl_Alphabet_ties.f x532000 x532001).bind fun t551 => ((impl_lettersAt.f k x9 x2).bind fun t554 => ((impl_ties_normal.f k t551 t554).bind fun t557 => (some (t557, 0)))))
def impl_PrefixAt.f (k : Nat) (a0_0 : Int) (l0_1 : List Int) (l1 : List Int) (a2 : Int) : Option (List Int × Int) := (impl_checkWords.f k a0_0 l0_1 (([l1] : List (List Int)))).bind fun t535 => (if t535 = 0 then ((impl_length_int64.f l1).bind fun t536 => ((impl_IsMask.f a2 t536).bind fun t537 => (if t537 = true then ((impl_positions.f k a0_0 l0_1 l1).bind fun bt538 => ((impl_converse.f k bt538.2).bind fun t544 => ((impl_lettersAt.f k t544 a2).bind fun t547 => (impl_PrefixAt.l0 k a2 bt538.1 t547 (t547.length : Int) 0 a0_0 l0_1)))) else (some (([] : List Int), 2))))) else (some (([] : List Int), t535)))

set_option maxHeartbeats 8000000 in
set_option maxRecDepth 100000 in
theorem impl_PrefixAt.calls (k : Nat) (a0_0 : Int) (P0_1_ : Nat → Prop) (A0_1 : Option Addr) (c0_1 : Nat) (l0_1 : List Int) (P1_ : Nat → Prop) (A1 : Option Addr) (c1 : Nat) (l1 : List Int) (a2 : Int) (r1 : List Int) (r2 : Int) (w : World) (hs0_1 : Kd.V (Kd.int .i64) 2 w w.heap.size (fun k_ => P0_1_ k_) (.slice A0_1 l0_1.length c0_1) l0_1) (hs1 : Kd.V (Kd.int .i64) 2 w w.heap.size (fun k_ => P1_ k_) (.slice A1 l1.length c1) l1) (hT : TabW w) (h : impl_PrefixAt.f k a0_0 l0_1 l1 a2 = some (r1, r2)) :
  Calls Tryd.prog 31 #[.agg #[.int .i64 a0_0, .slice A0_1 l0_1.length c0_1], .slice A1 l1.length c1, .int .i64 a2] w fun e w' => ∃ v0_ : Value, e = .returned (.tuple #[v0_, .int .i64 r2]) ∧ Kd.R (Kd.int .i64) 2 w' w.heap.size (fun k_ => (w.heap.size ≤ k_)) v0_ r1 ∧ Below w.heap.size w w' := by
 have hu26 := Tryd.underlying26
 have HT := zA hT
 clear hT
 have HO0_1 := zA (show Kd.V (Kd.int .i64) 2 w w.heap.size (fun k_ => ((P0_1_ k_ ∨ P1_ k_) ∨ w.heap.size ≤ k_)) (.slice A0_1 l0_1.length c0_1) l0_1 from Kd.V_mono hs0_1 (fun k_ hk => .inl (.inl hk)))
 have HO1 := zA (show Kd.V (Kd.int .i64) 2 w w.heap.size (fun k_ => ((P0_1_ k_ ∨ P1_ k_) ∨ w.heap.size ≤ k_)) (.slice A1 l1.length c1) l1 from Kd.V_mono hs1 (fun k_ hk => .inl (.inr hk)))
 have HB := zA (Below.refl w.heap.size w)
 have H : ((impl_checkWords.f k a0_0 l0_1 (([l1] : List (List Int)))).bind fun t535 => (if t535 = 0 then ((impl_length_int64.f l1).bind fun t536 => ((impl_IsMask.f a2 t536).bind fun t537 => (if t537 = true then ((impl_positions.f k a0_0 l0_1 l1).bind fun bt538 => ((impl_converse.f k bt538.2).bind fun t544 => ((impl_lettersAt.f k t544 a2).bind fun t547 => (impl_PrefixAt.l0 k a2 bt538.1 t547 (t547.length : Int) 0 a0_0 l0_1)))) else (some (([] : List Int), 2))))) else (some (([] : List Int), t535)))) = some (r1, r2) := h
 clear h
 obtain ⟨y532, hy532⟩ : ∃ y_ : List (List Int), y_ = (([l1] : List (List Int))) := ⟨_, rfl⟩
 replace H : ((impl_checkWords.f k a0_0 l0_1 y532).bind fun t535 => (if t535 = 0 then ((impl_length_int64.f l1).bind fun t536 => ((impl_IsMask.f a2 t536).bind fun t537 => (if t537 = true then ((impl_positions.f k a0_0 l0_1 l1).bind fun bt538 => ((impl_converse.f k bt538.2).bind fun t544 => ((impl_lettersAt.f k t544 a2).bind fun t547 => (impl_PrefixAt.l0 k a2 bt538.1 t547 (t547.length : Int) 0 a0_0 l0_1)))) else (some (([] : List Int), 2))))) else (some (([] : List Int), t535)))) = some (r1, r2) := zy hy532 H
 have Ny532 := zA hy532
 clear hy532
 obtain ⟨t535, A4, H⟩ := zb H
 try dsimp only at H
 by_cases c5 : t535 = 0
 ·rw [if_pos c5] at H
  have c5b0 : (t535 == 0) = true := beq_iff_eq.mpr c5
  have c5b1 : (t535 != 0) = false := bne_eq_false_iff_eq.mpr c5
  clear c5
  obtain ⟨t536, A6, H⟩ := zb H
  try dsimp only at H
  obtain ⟨t537, A7, H⟩ := zb H
  try dsimp only at H
  by_cases c8 : t537 = true
  ·subst c8
   have H1 : ((impl_positions.f k a0_0 l0_1 l1).bind fun bt538 => ((impl_converse.f k bt538.2).bind fun t544 => ((impl_lettersAt.f k t544 a2).bind fun t547 => (impl_PrefixAt.l0 k a2 bt538.1 t547 (t547.length : Int) 0 a0_0 l0_1)))) = some (r1, r2) := by rw [if_pos rfl] at H; exact H
   clear H
   have H := H1
   clear H1
   obtain ⟨⟨t538, t541⟩, A9, H⟩ := zb H
   try dsimp only at H
   obtain ⟨t544, A10, H⟩ := zb H
   try dsimp only at H
   obtain ⟨t547, A11, H⟩ := zb H
   try dsimp only at H
   have H' := zA H
   clear H
   go_enter Tryd.func31, Tryd.ntmps31
   go_wp2_with (first | ((with_reducible refine gate_dst (N := 3) rfl ?_); refine box_event ?hg (N := 3) ?hd (cs := #[.int .i64 a0_0, .slice A0_1 l0_1.length c0_1]) (t := 26) ?hr ?_; (case hd => rfl); (case hg => rfl); (case hr => first | (go_simp; done) | (go_simp; rfl)); intro gb531 hg w12 hbox hb; replace HO0_1 := zA (Kd.V_below (Kd.V_elderB (zPV HO0_1.out) gb531 (Nat.le_of_eq hg.symm)) hb); replace HO1 := zA (Kd.V_below (Kd.V_elderB (zPV HO1.out) gb531 (Nat.le_of_eq hg.symm)) hb); have BK531 := zA (hbox); have GW531 := zA ((by rw [hg]; exact (below_size (zQ HB.out)) : w.heap.size ≤ gb531)); have GE531 := zA ((by rw [hg]; exact (below_size (zQ HB.out)) : w.heap.size ≤ gb531)); replace HB := zA (below_step (zQ HB.out) hb); clear hb hbox hg; have hcz13_0 : w12.cell? ⟨gb531, 0, none⟩ = some (.int .i64 a0_0) := (blk_cell BK531.out 0).trans rfl; have hcz13_1 : w12.cell? ⟨gb531, 1, none⟩ = some (.slice A0_1 l0_1.length c0_1) := (blk_cell BK531.out 1).trans rfl; have hfz13_0 := blk_frozen BK531.out 0; have hfz13_1 := blk_frozen BK531.out 1) | ((with_reducible refine gate_dst (N := 15) rfl ?_); refine Kd.N_lit (Kd.slice 2 (Kd.int .i64)) _ 24 ?hg (N' := 15) ?hd (xs := ([l1] : List (List Int))) (inner := [.slice A1 l1.length c1]) (ok := (fun k_ => ((P0_1_ k_ ∨ P1_ k_) ∨ w.heap.size ≤ k_) ∧ k_ ≠ gb531)) (okp := (fun k_ => ((P0_1_ k_ ∨ P1_ k_) ∨ w.heap.size ≤ k_) ∧ k_ ≠ gb531)) ?hr ?hp (fun _ hk => hk) ((show ∀ k_ : Nat, (_ : Nat) ≤ k_ → (fun k_ => ((P0_1_ k_ ∨ P1_ k_) ∨ w.heap.size ≤ k_) ∧ k_ ≠ gb531) k_ from fun k_ hk => ⟨(.inr (Nat.le_trans (below_size (zT HB.out GE531.out)) hk)), Kd.freshB (g := gb531) (o := .cells #[.int .i64 a0_0, .slice A0_1 l0_1.length c0_1] 26 (0, 0)) (zR BK531.out) k_ hk⟩) _ (Nat.le_refl _)) (Below.refl _ _) (Nat.le_refl _) (by simp) ?_; (case hd => rfl); (case hg => rfl); (case hr => first | (go_simp; done) | (go_simp; rfl)); (case hp => exact (Reps.one (show Kd.FK (Kd.slice 2 (Kd.int .i64)) _ _ l1 [.slice A1 l1.length c1] from (Kd.FK_slice_mk (Kd.V_reads' (Kd.V_mono (ok' := (fun k_ => ((P0_1_ k_ ∨ P1_ k_) ∨ w.heap.size ≤ k_) ∧ k_ ≠ gb531)) (HO1.out) (fun k_ hk => ⟨hk.1, hk.2⟩))).2.1 (Kd.V_F (Kd.V_mono (ok' := (fun k_ => ((P0_1_ k_ ∨ P1_ k_) ∨ w.heap.size ≤ k_) ∧ k_ ≠ gb531)) (HO1.out) (fun k_ hk => ⟨hk.1, hk.2⟩))))) (Reps.none _ _))); intro v533 w14 ho15 hb hg_ hnew_; clear hg_ hnew_; (first | rw [← Ny532.out] at ho15 | (simp only [Int.reduceToNat] at ho15; rw [← Ny532.out] at ho15)); replace HO0_1 := zA (Kd.V_elder' (zPV HO0_1.out) (Kd.N_base ho15) hb); replace HO1 := zA (Kd.V_elder' (zPV HO1.out) (Kd.N_base ho15) hb); have HO534 := zA (Kd.N_lower ho15 (below_size (zT HB.out GE531.out))); replace BK531 := zA (blk_below (g := gb531) (o := .cells #[.int .i64 a0_0, .slice A0_1 l0_1.length c0_1] 26 (0, 0)) (zR BK531.out) hb); replace HB := zA (below_step (zT HB.out GE531.out) hb); clear hb ho15; obtain ⟨Ao16, co16, eo16⟩ := Kd.N_slice HO534.out; subst eo16) | ((with_reducible refine gate_callee (f := 49) rfl ?_); refine zO (some 16) Tryd.func49 #[.agg #[.int .i64 a0_0, .slice A0_1 l0_1.length c0_1], .slice Ao16 y532.length co16] ?_; (with_reducible refine (impl_checkWords.calls k a0_0 _ _ l0_1 _ _ y532 t535 _ ?side1 ?side2 ?side3 ?side4 ?side5 A4.out).mono ?_); (case side1 => exact zS (Kd.V_reads' HO0_1.out).2.2); (case side2 => exact (Kd.V_reads' HO0_1.out).2.1); (case side3 => exact zS (Kd.N_reads' HO534.out).2.2); (case side4 => exact (Kd.N_reads' HO534.out).2.1); (case side5 => exact TabW.below HT.out (zT HB.out GE531.out)); rintro e w17 ⟨rfl, hb⟩; refine ⟨_, rfl, ?_⟩; replace HO0_1 := zA (Kd.V_below (zPV HO0_1.out) hb); replace HO1 := zA (Kd.V_below (zPV HO1.out) hb); replace HO534 := zA (Kd.N_below (zPN HO534.out) hb); replace BK531 := zA (blk_below (g := gb531) (o := .cells #[.int .i64 a0_0, .slice A0_1 l0_1.length c0_1] 26 (0, 0)) (zR BK531.out) hb); replace HB := zA (below_step (zT HB.out GE531.out) hb); (try clear hb)) | ((with_reducible refine gate_callee (f := 82) rfl ?_); refine zO (some 22) Tryd.func82 #[.slice A1 l1.length c1] ?_; (with_reducible refine (impl_length_int64.calls _ _ l1 t536 _ ?side1 ?side2 A6.out).mono ?_); (case side1 => exact zS (Kd.V_reads' HO1.out).2.2); (case side2 => exact (Kd.V_reads' HO1.out).2.1); rintro e w' ⟨rfl, ⟨nd, rfl⟩⟩; refine ⟨_, rfl, ?_⟩) | ((with_reducible refine gate_callee (f := 61) rfl ?_); refine zO (some 23) Tryd.func61 #[.int .i64 a2, .int .i64 t536] ?_; (with_reducible refine (impl_IsMask.calls a2 t536 true _ A7.out).mono ?_); rintro e w' ⟨rfl, ⟨nd, rfl⟩⟩; refine ⟨_, rfl, ?_⟩; have hcz18_0 : w17.cell? ⟨gb531, 0, none⟩ = some (.int .i64 a0_0) := (blk_cell BK531.out 0).trans rfl; have hcz18_1 : w17.cell? ⟨gb531, 1, none⟩ = some (.slice A0_1 l0_1.length c0_1) := (blk_cell BK531.out 1).trans rfl; have hfz18_0 := blk_frozen BK531.out 0; have hfz18_1 := blk_frozen BK531.out 1) | ((with_reducible refine gate_callee (f := 83) rfl ?_); refine zO (some 28) Tryd.func83 #[.agg #[.int .i64 a0_0, .slice A0_1 l0_1.length c0_1], .slice A1 l1.length c1] ?_; (with_reducible refine (impl_positions.calls k a0_0 _ _ l0_1 _ _ l1 t538 t541 _ ?side1 ?side2 ?side3 ?side4 ?side5 A9.out).mono ?_); (case side1 => exact zS (Kd.V_reads' HO0_1.out).2.2); (case side2 => exact (Kd.V_reads' HO0_1.out).2.1); (case side3 => exact zS (Kd.V_reads' HO1.out).2.2); (case side4 => exact (Kd.V_reads' HO1.out).2.1); (case side5 => exact TabW.below HT.out (zT HB.out GE531.out)); rintro e w19 ⟨v539, v542, rfl, ho0, ho1, hb⟩; refine ⟨_, rfl, ?_⟩; replace HO0_1 := zA (Kd.V_mono (Kd.V_told (Kd.V_told (Kd.V_old (zPV HO0_1.out) hb) (Kd.R_base ho0)) (Kd.R_base ho1)) (fun _ h_ => h_.1)); replace HO1 := zA (Kd.V_mono (Kd.V_told (Kd.V_told (Kd.V_old (zPV HO1.out) hb) (Kd.R_base ho0)) (Kd.R_base ho1)) (fun _ h_ => h_.1)); replace HO534 := zA (Kd.N_mono (Kd.N_told (Kd.N_told (Kd.N_old (zPN HO534.out) hb) (Kd.R_base ho0)) (Kd.R_base ho1)) (fun _ h_ => h_.1)); have HO540 := zA (Kd.R_lower (Kd.R_newM (M := fun k_ => (w.heap.size ≤ k_)) ho0 (below_size (zT HB.out GE531.out)) (fun k_ h_ => h_)) (below_size (zT HB.out GE531.out))); have HO543 := zA (Kd.R_lower (Kd.R_newM (M := fun k_ => (w.heap.size ≤ k_)) ho1 (below_size (zT HB.out GE531.out)) (fun k_ h_ => h_)) (below_size (zT HB.out GE531.out))); replace BK531 := zA (blk_below (g := gb531) (o := .cells #[.int .i64 a0_0, .slice A0_1 l0_1.length c0_1] 26 (0, 0)) (zR BK531.out) hb); replace HB := zA (below_step (zT HB.out GE531.out) hb); (try clear hb); (try clear ho0); (try clear ho1); obtain ⟨Ao20, co20, eo20⟩ := Kd.R_slice HO543.out; subst eo20) | ((with_reducible refine gate_callee (f := 85) rfl ?_); refine zO (some 32) Tryd.func85 #[.slice Ao20 t541.length co20] ?_; (with_reducible refine (impl_converse.calls k _ _ t541 t544 _ ?side1 ?side2 ?side3 A10.out).mono ?_); (case side1 => exact zS (Kd.R_reads' HO543.out).2.2); (case side2 => exact (Kd.R_reads' HO543.out).2.1); (case side3 => exact TabW.below HT.out (zT HB.out GE531.out)); rintro e w21 ⟨v545, rfl, ho0, hb⟩; refine ⟨_, rfl, ?_⟩; replace HO0_1 := zA (Kd.V_elder' (zPV HO0_1.out) (Kd.R_base ho0) hb); replace HO1 := zA (Kd.V_elder' (zPV HO1.out) (Kd.R_base ho0) hb); replace HO534 := zA (Kd.N_elder' (zPN HO534.out) (Kd.R_base ho0) hb); have HO546 := zA (Kd.R_lower (Kd.R_new' (Kd.R_new' (Kd.R_newM (M := fun k_ => (w.heap.size ≤ k_)) ho0 (below_size (zT HB.out GE531.out)) (fun k_ h_ => h_)) (Kd.R_lt (zP HO540.out))) (Kd.R_lt (zP HO543.out))) (below_size (zT HB.out GE531.out))); replace HO540 := zA (Kd.R_elder' (zP HO540.out) (Kd.R_base ho0) hb); replace HO543 := zA (Kd.R_elder' (zP HO543.out) (Kd.R_base ho0) hb); replace BK531 := zA (blk_below (g := gb531) (o := .cells #[.int .i64 a0_0, .slice A0_1 l0_1.length c0_1] 26 (0, 0)) (zR BK531.out) hb); replace HB := zA (below_step (zT HB.out GE531.out) hb); (try clear hb); (try clear ho0); obtain ⟨Ao22, co22, eo22⟩ := Kd.R_slice HO546.out; subst eo22) | ((with_reducible refine gate_callee (f := 84) rfl ?_); refine zO (some 34) Tryd.func84 #[.slice Ao22 t544.length co22, .int .i64 a2] ?_; (with_reducible refine (impl_lettersAt.calls k _ _ t544 a2 t547 _ ?side1 ?side2 ?side3 A11.out).mono ?_); (case side1 => exact zS (Kd.R_reads' HO546.out).2.2); (case side2 => exact (Kd.R_reads' HO546.out).2.1); (case side3 => exact TabW.below HT.out (zT HB.out GE531.out)); rintro e w23 ⟨v548, rfl, ho0, hb⟩; refine ⟨_, rfl, ?_⟩; replace HO0_1 := zA (Kd.V_elder' (zPV HO0_1.out) (Kd.R_base ho0) hb); replace HO1 := zA (Kd.V_elder' (zPV HO1.out) (Kd.R_base ho0) hb); replace HO534 := zA (Kd.N_elder' (zPN HO534.out) (Kd.R_base ho0) hb); have HO549 := zA (Kd.R_lower (Kd.R_new' (Kd.R_new' (Kd.R_new' (Kd.R_newM (M := fun k_ => (w.heap.size ≤ k_)) ho0 (below_size (zT HB.out GE531.out)) (fun k_ h_ => h_)) (Kd.R_lt (zP HO540.out))) (Kd.R_lt (zP HO543.out))) (Kd.R_lt (zP HO546.out))) (below_size (zT HB.out GE531.out))); replace HO540 := zA (Kd.R_elder' (zP HO540.out) (Kd.R_base ho0) hb); replace HO543 := zA (Kd.R_elder' (zP HO543.out) (Kd.R_base ho0) hb); replace HO546 := zA (Kd.R_elder' (zP HO546.out) (Kd.R_base ho0) hb); replace BK531 := zA (blk_below (g := gb531) (o := .cells #[.int .i64 a0_0, .slice A0_1 l0_1.length c0_1] 26 (0, 0)) (zR BK531.out) hb); replace HB := zA (below_step (zT HB.out GE531.out) hb); (try clear hb); (try clear ho0); obtain ⟨Ao24, co24, eo24⟩ := Kd.R_slice HO549.out; subst eo24))
   go_loopg [36] k (fun kq v36 w' => ∃ (x36_1 : Int), v36 = .int .i64 x36_1 ∧ Aside0 (impl_PrefixAt.l0 kq a2 t538 t547 (t547.length : Int) x36_1 a0_0 l0_1 = some (r1, r2)) ∧ Aside0 (kq ≤ k) ∧ Aside0 (Kd.R (Kd.int .i64) 2 w' w.heap.size (fun k_ => (w.heap.size ≤ k_) ∧ some k_ ≠ ((.slice Ao24 t547.length co24) : Value).ownBlock) v539 t538) ∧ Aside0 (Kd.R (Kd.int .i64) 2 w' w.heap.size (fun k_ => (w.heap.size ≤ k_) ∧ some k_ ≠ (v539 : Value).ownBlock) (.slice Ao24 t547.length co24) t547) ∧ Aside0 (Kd.V (Kd.int .i64) 2 w' w.heap.size (fun k_ => ((P0_1_ k_ ∨ P1_ k_) ∨ w.heap.size ≤ k_) ∧ some k_ ≠ (v539 : Value).ownBlock ∧ some k_ ≠ ((.slice Ao24 t547.length co24) : Value).ownBlock ∧ k_ ≠ gb531) (.slice A0_1 l0_1.length c0_1) l0_1) ∧ Aside0 (w'.heap[gb531]? = some (.cells #[.int .i64 a0_0, (.slice A0_1 l0_1.length c0_1)] 26 (0, 0))) ∧ Aside0 (Below w.heap.size w w'))
   case atStart => exact ⟨(0), (by first | rfl | (simp; done) | (simp [*]; done)), H', ⟨Nat.le_refl _⟩, ⟨by (with_reducible repeat (first | apply zF | apply zG | apply zH)); exact Kd.R_mono HO540.out (fun _ hk => ⟨hk.1.1.1, hk.2⟩)⟩, ⟨by (with_reducible repeat (first | apply zF | apply zG | apply zH)); exact Kd.R_mono HO549.out (fun _ hk => ⟨hk.1.1.1.1, hk.1.1.2⟩)⟩, ⟨by (with_reducible repeat (first | apply Kd.V_alloc | apply Kd.V_drewN | apply Kd.V_drew)); exact Kd.V_mono HO0_1.out (fun _ hk => ⟨hk.1.1.1.1.1.1, ⟨hk.1.1.1.2, ⟨hk.2, hk.1.1.1.1.1.2⟩⟩⟩)⟩, ⟨by (with_reducible repeat (first | refine zJ ?_ _ | refine zK ?_ | refine zI ?_ _)); exact BK531.out⟩, ⟨zT HB.out GE531.out⟩⟩
   case round =>
    clear H'
    try clear c1
    try clear p2
    try clear c3
    try clear c4
    try clear c5
    try clear c5b0
    try clear c5b1
    try clear c6
    try clear c8
    try clear hcz13_0
    try clear hcz13_1
    try clear hcz18_0
    try clear hcz18_1
    try clear hfz13_0
    try clear hfz13_1
    try clear hfz18_0
    try clear hfz18_1
    obtain ⟨x36_1, rfl, HA, HK1, HO_9, HO_34, HO_532001, BK531, HB⟩ := hrel
    cases gk with
    | zero => exact absurd HA.out (by simp [impl_PrefixAt.l0])
    | succ k1 =>
     have H := HA.out
     clear HA
     simp only [impl_PrefixAt.l0] at H
     by_cases c25 : x36_1 < (t547.length : Int)
     ·rw [if_pos c25] at H
      have c25b0 : decide (x36_1 < (t547.length : Int)) = true := decide_eq_true c25
      clear c25
      by_cases c26 : 0 ≤ x36_1
      ·rw [if_pos c26] at H
       have c26b0 : decide (0 ≤ x36_1) = true := decide_eq_true c26
       clear c26
       by_cases c27 : x36_1 < (t547.length : Int)
       ·rw [if_pos c27] at H
        have c27b0 : decide (x36_1 < (t547.length : Int)) = true := decide_eq_true c27
        clear c27
        by_cases c28 : (Go.bits .andNot .i64 (rd t547 x36_1) a2) = 0
        ·rw [if_pos c28] at H
         have c28b0 : ((Go.bits .andNot .i64 (rd t547 x36_1) a2) == 0) = true := beq_iff_eq.mpr c28
         have c28b1 : ((Go.bits .andNot .i64 (rd t547 x36_1) a2) != 0) = false := bne_eq_false_iff_eq.mpr c28
         clear c28
         have H' := zA H
         clear H
         have p550 : 0 ≤ (x36_1 : Int) := zd
         have q550 : x36_1 < (t547.length : Int) := zd
         obtain ⟨ad550, e550, hx550_0⟩ := Kd.at_int (Kd.R_reads' HO_34.out).2.2 x36_1 p550 q550
         cases e550
         replace p550 := eq_true p550
         replace q550 := eq_true q550
         go_wp2
         go_roundg k1
         case measure => have := HK1.out; omega
         case rel => exact ⟨(wrap64 (x36_1 + 1)), (by first | rfl | (simp; done) | (simp [*]; done)), H', ⟨by have := HK1.out; omega⟩, ⟨by (with_reducible repeat (first | apply zF | apply zG | apply zH)); exact HO_9.out⟩, ⟨by (with_reducible repeat (first | apply zF | apply zG | apply zH)); exact HO_34.out⟩, ⟨by (with_reducible repeat (first | apply Kd.V_alloc | apply Kd.V_drewN | apply Kd.V_drew)); exact HO_532001.out⟩, ⟨by (with_reducible repeat (first | refine zJ ?_ _ | refine zK ?_ | refine zI ?_ _)); exact BK531.out⟩, ⟨zT HB.out GE531.out⟩⟩
        rw [if_neg c28] at H
        have c28b0 : ((Go.bits .andNot .i64 (rd t547 x36_1) a2) == 0) = false := beq_eq_false_iff_ne.mpr c28
        have c28b1 : ((Go.bits .andNot .i64 (rd t547 x36_1) a2) != 0) = true := bne_iff_ne.mpr c28
        simp only [Option.some.injEq, Prod.mk.injEq] at H
        obtain ⟨rfl, rfl⟩ := H
        have p550 : 0 ≤ (x36_1 : Int) := zd
        have q550 : x36_1 < (t547.length : Int) := zd
        obtain ⟨ad550, e550, hx550_0⟩ := Kd.at_int (Kd.R_reads' HO_34.out).2.2 x36_1 p550 q550
        cases e550
        replace p550 := eq_true p550
        replace q550 := eq_true q550
        go_wp2
        go_ret2
        exact ⟨_, zr, zn, zT HB.out GE531.out⟩
       rw [if_neg c27] at H
       exact absurd H (by simp)
      rw [if_neg c26] at H
      exact absurd H (by simp)
     rw [if_neg c25] at H
     have c25b0 : decide (x36_1 < (t547.length : Int)) = false := decide_eq_false c25
     clear c25
     obtain ⟨t551, A29, H⟩ := zb H
     try dsimp only at H
     obtain ⟨t554, A30, H⟩ := zb H
     try dsimp only at H
     obtain ⟨t557, A31, H⟩ := zb H
     try dsimp only at H
     simp only [Option.some.injEq, Prod.mk.injEq] at H
     obtain ⟨rfl, rfl⟩ := H
     have hcz32_0 : wr.cell? ⟨gb531, 0, none⟩ = some (.int .i64 a0_0) := (blk_cell BK531.out 0).trans rfl
     have hcz32_1 : wr.cell? ⟨gb531, 1, none⟩ = some (.slice A0_1 l0_1.length c0_1) := (blk_cell BK531.out 1).trans rfl
     have hfz32_0 := blk_frozen BK531.out 0
     have hfz32_1 := blk_frozen BK531.out 1
     go_wp2_with (first | ((with_reducible refine gate_callee (f := 50) rfl ?_); refine zO (some 46) Tryd.func50 #[.agg #[.int .i64 a0_0, .slice A0_1 l0_1.length c0_1]] ?_; (with_reducible refine (impl_Alphabet_ties.calls a0_0 (fun k_ => (((P0_1_ k_ ∨ P1_ k_) ∨ w.heap.size ≤ k_) ∧ (some k_ ≠ (v539 : Value).ownBlock ∧ (some k_ ≠ (.slice Ao24 t547.length co24 : Value).ownBlock ∧ k_ ≠ gb531)))) _ _ l0_1 t551 _ ?side1 A29.out).mono ?_); (case side1 => exact HO_532001.out); rintro e w33 ⟨v552, rfl, ho0, hb⟩; refine ⟨_, rfl, ?_⟩; replace HO_532001 := zA (Kd.V_below (zPV HO_532001.out) hb); have HO553 := zA (Kd.V_lower (Kd.V_mono (ok' := fun k_ => ((P0_1_ k_ ∨ P1_ k_) ∨ w.heap.size ≤ k_) ∧ some k_ ≠ (v539 : Value).ownBlock ∧ some k_ ≠ (.slice Ao24 t547.length co24 : Value).ownBlock ∧ k_ ≠ gb531) ho0 (fun k_ hk_ => ⟨Or.elim hk_ (fun hs_ => hs_.1) (fun hn_ => (.inr (Nat.le_trans (below_size (zT HB.out GE531.out)) hn_))), Or.elim hk_ (fun hs_ => hs_.2.1) (fun hn_ => (Kd.fresh' (Kd.R_lt (zP HO_9.out)) k_ hn_)), Or.elim hk_ (fun hs_ => hs_.2.2.1) (fun hn_ => (Kd.fresh' (Kd.R_lt (zP HO_34.out)) k_ hn_)), Or.elim hk_ (fun hs_ => hs_.2.2.2) (fun hn_ => (Kd.freshB (g := gb531) (o := .cells #[.int .i64 a0_0, .slice A0_1 l0_1.length c0_1] 26 (0, 0)) (zR BK531.out) k_ hn_))⟩)) (below_size (zT HB.out GE531.out))); replace HO_9 := zA (Kd.R_below (zP HO_9.out) hb); replace HO_34 := zA (Kd.R_below (zP HO_34.out) hb); replace BK531 := zA (blk_below (g := gb531) (o := .cells #[.int .i64 a0_0, .slice A0_1 l0_1.length c0_1] 26 (0, 0)) (zR BK531.out) hb); replace HB := zA (below_step (zT HB.out GE531.out) hb); (try clear hb); (try clear ho0); obtain ⟨Ao34, co34, eo34⟩ := Kd.R_slice HO_9.out; subst eo34) | ((with_reducible refine gate_callee (f := 84) rfl ?_); refine zO (some 49) Tryd.func84 #[.slice Ao34 t538.length co34, .int .i64 a2] ?_; (with_reducible refine (impl_lettersAt.calls k1 _ _ t538 a2 t554 _ ?side1 ?side2 ?side3 A30.out).mono ?_); (case side1 => exact zS (Kd.R_reads' HO_9.out).2.2); (case side2 => exact (Kd.R_reads' HO_9.out).2.1); (case side3 => exact TabW.below HT.out (zT HB.out GE531.out)); rintro e w35 ⟨v555, rfl, ho0, hb⟩; refine ⟨_, rfl, ?_⟩; replace HO_532001 := zA (Kd.V_elder' (zPV HO_532001.out) (Kd.R_base ho0) hb); replace HO553 := zA (Kd.V_elder' (zPV HO553.out) (Kd.R_base ho0) hb); have HO556 := zA (Kd.R_lower (Kd.R_new' (Kd.R_new' (Kd.R_newM (M := fun k_ => (w.heap.size ≤ k_)) ho0 (below_size (zT HB.out GE531.out)) (fun k_ h_ => h_)) (Kd.R_lt (zP HO_9.out))) (Kd.R_lt (zP HO_34.out))) (below_size (zT HB.out GE531.out))); replace HO_9 := zA (Kd.R_elder' (zP HO_9.out) (Kd.R_base ho0) hb); replace HO_34 := zA (Kd.R_elder' (zP HO_34.out) (Kd.R_base ho0) hb); replace BK531 := zA (blk_below (g := gb531) (o := .cells #[.int .i64 a0_0, .slice A0_1 l0_1.length c0_1] 26 (0, 0)) (zR BK531.out) hb); replace HB := zA (below_step (zT HB.out GE531.out) hb); (try clear hb); (try clear ho0); obtain ⟨Ao36, co36, eo36⟩ := Kd.V_slice HO553.out; subst eo36; obtain ⟨Ao37, co37, eo37⟩ := Kd.R_slice HO556.out; subst eo37) | ((with_reducible refine gate_callee (f := 56) rfl ?_); refine zO (some 50) Tryd.func56 #[.slice Ao36 t551.length co36, .slice Ao37 t554.length co37] ?_; (with_reducible refine (impl_ties_normal.calls k1 _ _ t551 (fun k_ => some k_ = (.slice Ao37 t554.length co37 : Value).ownBlock) _ _ t554 t557 _ ?side1 ?side2 ?side3 ?side4 A31.out).mono ?_); (case side1 => exact zS (Kd.V_reads' HO553.out).2.2); (case side2 => exact (Kd.V_reads' HO553.out).2.1); (case side3 => exact Kd.R_V (Kd.R_tight rfl (Kd.R_types (HO556.out) BK531.out (by decide)))); (case side4 => exact TabW.below HT.out (zT HB.out GE531.out)); rintro e w38 ⟨v558, rfl, ho0, hb⟩; refine ⟨_, rfl, ?_⟩; replace HO_532001 := zA (Kd.V_elder' (zPV HO_532001.out) (Kd.R_base ho0) hb); replace HO553 := zA (Kd.V_elder' (zPV HO553.out) (Kd.R_base ho0) hb); have HO559 := zA (Kd.R_lower (Kd.R_new' (Kd.R_new' (Kd.R_new' (Kd.R_newM (M := fun k_ => (w.heap.size ≤ k_)) (Kd.R_mono (ok' := fun k_ => True) ho0 (fun _ hk_ => trivial)) (below_size (zT HB.out GE531.out)) (fun k_ h_ => h_)) (Kd.R_lt (zP HO_9.out))) (Kd.R_lt (zP HO_34.out))) (Kd.R_lt (zP HO556.out))) (below_size (zT HB.out GE531.out))); replace HO_9 := zA (Kd.R_elder' (zP HO_9.out) (Kd.R_base ho0) hb); replace HO_34 := zA (Kd.R_elder' (zP HO_34.out) (Kd.R_base ho0) hb); replace HO556 := zA (Kd.R_elder' (zP HO556.out) (Kd.R_base ho0) hb); replace BK531 := zA (blk_below (g := gb531) (o := .cells #[.int .i64 a0_0, .slice A0_1 l0_1.length c0_1] 26 (0, 0)) (zR BK531.out) hb); replace HB := zA (below_step (zT HB.out GE531.out) hb); (try clear hb); (try clear ho0)))
     go_ret2
     exact ⟨_, zr, by (with_reducible repeat (first | apply zF | apply zG | apply zH)); exact Kd.R_mono HO559.out (fun _ hk => hk.1.1.1.1), zT HB.out GE531.out⟩
  replace c8 := Bool.eq_false_iff.mpr c8
  subst c8
  have H1 : (some (([] : List Int), 2)) = some (r1, r2) := by rw [if_neg (show ¬ (false = true) by decide)] at H; exact H
  clear H
  have H := H1
  clear H1
  simp only [Option.some.injEq, Prod.mk.injEq] at H
  obtain ⟨rfl, rfl⟩ := H
  go_enter Tryd.func31, Tryd.ntmps31
  go_wp2_with (first | ((with_reducible refine gate_dst (N := 3) rfl ?_); refine box_event ?hg (N := 3) ?hd (cs := #[.int .i64 a0_0, .slice A0_1 l0_1.length c0_1]) (t := 26) ?hr ?_; (case hd => rfl); (case hg => rfl); (case hr => first | (go_simp; done) | (go_simp; rfl)); intro gb531 hg w39 hbox hb; replace HO0_1 := zA (Kd.V_below (Kd.V_elderB (zPV HO0_1.out) gb531 (Nat.le_of_eq hg.symm)) hb); replace HO1 := zA (Kd.V_below (Kd.V_elderB (zPV HO1.out) gb531 (Nat.le_of_eq hg.symm)) hb); have BK531 := zA (hbox); have GW531 := zA ((by rw [hg]; exact (below_size (zQ HB.out)) : w.heap.size ≤ gb531)); have GE531 := zA ((by rw [hg]; exact (below_size (zQ HB.out)) : w.heap.size ≤ gb531)); replace HB := zA (below_step (zQ HB.out) hb); clear hb hbox hg; have hcz40_0 : w39.cell? ⟨gb531, 0, none⟩ = some (.int .i64 a0_0) := (blk_cell BK531.out 0).trans rfl; have hcz40_1 : w39.cell? ⟨gb531, 1, none⟩ = some (.slice A0_1 l0_1.length c0_1) := (blk_cell BK531.out 1).trans rfl; have hfz40_0 := blk_frozen BK531.out 0; have hfz40_1 := blk_frozen BK531.out 1) | ((with_reducible refine gate_dst (N := 15) rfl ?_); refine Kd.N_lit (Kd.slice 2 (Kd.int .i64)) _ 24 ?hg (N' := 15) ?hd (xs := ([l1] : List (List Int))) (inner := [.slice A1 l1.length c1]) (ok := (fun k_ => ((P0_1_ k_ ∨ P1_ k_) ∨ w.heap.size ≤ k_) ∧ k_ ≠ gb531)) (okp := (fun k_ => ((P0_1_ k_ ∨ P1_ k_) ∨ w.heap.size ≤ k_) ∧ k_ ≠ gb531)) ?hr ?hp (fun _ hk => hk) ((show ∀ k_ : Nat, (_ : Nat) ≤ k_ → (fun k_ => ((P0_1_ k_ ∨ P1_ k_) ∨ w.heap.size ≤ k_) ∧ k_ ≠ gb531) k_ from fun k_ hk => ⟨(.inr (Nat.le_trans (below_size (zT HB.out GE531.out)) hk)), Kd.freshB (g := gb531) (o := .cells #[.int .i64 a0_0, .slice A0_1 l0_1.length c0_1] 26 (0, 0)) (zR BK531.out) k_ hk⟩) _ (Nat.le_refl _)) (Below.refl _ _) (Nat.le_refl _) (by simp) ?_; (case hd => rfl); (case hg => rfl); (case hr => first | (go_simp; done) | (go_simp; rfl)); (case hp => exact (Reps.one (show Kd.FK (Kd.slice 2 (Kd.int .i64)) _ _ l1 [.slice A1 l1.length c1] from (Kd.FK_slice_mk (Kd.V_reads' (Kd.V_mono (ok' := (fun k_ => ((P0_1_ k_ ∨ P1_ k_) ∨ w.heap.size ≤ k_) ∧ k_ ≠ gb531)) (HO1.out) (fun k_ hk => ⟨hk.1, hk.2⟩))).2.1 (Kd.V_F (Kd.V_mono (ok' := (fun k_ => ((P0_1_ k_ ∨ P1_ k_) ∨ w.heap.size ≤ k_) ∧ k_ ≠ gb531)) (HO1.out) (fun k_ hk => ⟨hk.1, hk.2⟩))))) (Reps.none _ _))); intro v533 w41 ho42 hb hg_ hnew_; clear hg_ hnew_; (first | rw [← Ny532.out] at ho42 | (simp only [Int.reduceToNat] at ho42; rw [← Ny532.out] at ho42)); replace HO0_1 := zA (Kd.V_elder' (zPV HO0_1.out) (Kd.N_base ho42) hb); replace HO1 := zA (Kd.V_elder' (zPV HO1.out) (Kd.N_base ho42) hb); have HO534 := zA (Kd.N_lower ho42 (below_size (zT HB.out GE531.out))); replace BK531 := zA (blk_below (g := gb531) (o := .cells #[.int .i64 a0_0, .slice A0_1 l0_1.length c0_1] 26 (0, 0)) (zR BK531.out) hb); replace HB := zA (below_step (zT HB.out GE531.out) hb); clear hb ho42; obtain ⟨Ao43, co43, eo43⟩ := Kd.N_slice HO534.out; subst eo43) | ((with_reducible refine gate_callee (f := 49) rfl ?_); refine zO (some 16) Tryd.func49 #[.agg #[.int .i64 a0_0, .slice A0_1 l0_1.length c0_1], .slice Ao43 y532.length co43] ?_; (with_reducible refine (impl_checkWords.calls k a0_0 _ _ l0_1 _ _ y532 t535 _ ?side1 ?side2 ?side3 ?side4 ?side5 A4.out).mono ?_); (case side1 => exact zS (Kd.V_reads' HO0_1.out).2.2); (case side2 => exact (Kd.V_reads' HO0_1.out).2.1); (case side3 => exact zS (Kd.N_reads' HO534.out).2.2); (case side4 => exact (Kd.N_reads' HO534.out).2.1); (case side5 => exact TabW.below HT.out (zT HB.out GE531.out)); rintro e w44 ⟨rfl, hb⟩; refine ⟨_, rfl, ?_⟩; replace HO0_1 := zA (Kd.V_below (zPV HO0_1.out) hb); replace HO1 := zA (Kd.V_below (zPV HO1.out) hb); replace HO534 := zA (Kd.N_below (zPN HO534.out) hb); replace BK531 := zA (blk_below (g := gb531) (o := .cells #[.int .i64 a0_0, .slice A0_1 l0_1.length c0_1] 26 (0, 0)) (zR BK531.out) hb); replace HB := zA (below_step (zT HB.out GE531.out) hb); (try clear hb)) | ((with_reducible refine gate_callee (f := 82) rfl ?_); refine zO (some 22) Tryd.func82 #[.slice A1 l1.length c1] ?_; (with_reducible refine (impl_length_int64.calls _ _ l1 t536 _ ?side1 ?side2 A6.out).mono ?_); (case side1 => exact zS (Kd.V_reads' HO1.out).2.2); (case side2 => exact (Kd.V_reads' HO1.out).2.1); rintro e w' ⟨rfl, ⟨nd, rfl⟩⟩; refine ⟨_, rfl, ?_⟩) | ((with_reducible refine gate_callee (f := 61) rfl ?_); refine zO (some 23) Tryd.func61 #[.int .i64 a2, .int .i64 t536] ?_; (with_reducible refine (impl_IsMask.calls a2 t536 false _ A7.out).mono ?_); rintro e w' ⟨rfl, ⟨nd, rfl⟩⟩; refine ⟨_, rfl, ?_⟩))
  go_ret2
  exact ⟨_, zr, zn, zT HB.out GE531.out⟩
 rw [if_neg c5] at H
 have c5b0 : (t535 == 0) = false := beq_eq_false_iff_ne.mpr c5
 have c5b1 : (t535 != 0) = true := bne_iff_ne.mpr c5
 simp only [Option.some.injEq, Prod.mk.injEq] at H
 obtain ⟨rfl, rfl⟩ := H
 go_enter Tryd.func31, Tryd.ntmps31
 go_wp2_with (first | ((with_reducible refine gate_dst (N := 3) rfl ?_); refine box_event ?hg (N := 3) ?hd (cs := #[.int .i64 a0_0, .slice A0_1 l0_1.length c0_1]) (t := 26) ?hr ?_; (case hd => rfl); (case hg => rfl); (case hr => first | (go_simp; done) | (go_simp; rfl)); intro gb531 hg w45 hbox hb; replace HO0_1 := zA (Kd.V_below (Kd.V_elderB (zPV HO0_1.out) gb531 (Nat.le_of_eq hg.symm)) hb); replace HO1 := zA (Kd.V_below (Kd.V_elderB (zPV HO1.out) gb531 (Nat.le_of_eq hg.symm)) hb); have BK531 := zA (hbox); have GW531 := zA ((by rw [hg]; exact (below_size (zQ HB.out)) : w.heap.size ≤ gb531)); have GE531 := zA ((by rw [hg]; exact (below_size (zQ HB.out)) : w.heap.size ≤ gb531)); replace HB := zA (below_step (zQ HB.out) hb); clear hb hbox hg; have hcz46_0 : w45.cell? ⟨gb531, 0, none⟩ = some (.int .i64 a0_0) := (blk_cell BK531.out 0).trans rfl; have hcz46_1 : w45.cell? ⟨gb531, 1, none⟩ = some (.slice A0_1 l0_1.length c0_1) := (blk_cell BK531.out 1).trans rfl; have hfz46_0 := blk_frozen BK531.out 0; have hfz46_1 := blk_frozen BK531.out 1) | ((with_reducible refine gate_dst (N := 15) rfl ?_); refine Kd.N_lit (Kd.slice 2 (Kd.int .i64)) _ 24 ?hg (N' := 15) ?hd (xs := ([l1] : List (List Int))) (inner := [.slice A1 l1.length c1]) (ok := (fun k_ => ((P0_1_ k_ ∨ P1_ k_) ∨ w.heap.size ≤ k_) ∧ k_ ≠ gb531)) (okp := (fun k_ => ((P0_1_ k_ ∨ P1_ k_) ∨ w.heap.size ≤ k_) ∧ k_ ≠ gb531)) ?hr ?hp (fun _ hk => hk) ((show ∀ k_ : Nat, (_ : Nat) ≤ k_ → (fun k_ => ((P0_1_ k_ ∨ P1_ k_) ∨ w.heap.size ≤ k_) ∧ k_ ≠ gb531) k_ from fun k_ hk => ⟨(.inr (Nat.le_trans (below_size (zT HB.out GE531.out)) hk)), Kd.freshB (g := gb531) (o := .cells #[.int .i64 a0_0, .slice A0_1 l0_1.length c0_1] 26 (0, 0)) (zR BK531.out) k_ hk⟩) _ (Nat.le_refl _)) (Below.refl _ _) (Nat.le_refl _) (by simp) ?_; (case hd => rfl); (case hg => rfl); (case hr => first | (go_simp; done) | (go_simp; rfl)); (case hp => exact (Reps.one (show Kd.FK (Kd.slice 2 (Kd.int .i64)) _ _ l1 [.slice A1 l1.length c1] from (Kd.FK_slice_mk (Kd.V_reads' (Kd.V_mono (ok' := (fun k_ => ((P0_1_ k_ ∨ P1_ k_) ∨ w.heap.size ≤ k_) ∧ k_ ≠ gb531)) (HO1.out) (fun k_ hk => ⟨hk.1, hk.2⟩))).2.1 (Kd.V_F (Kd.V_mono (ok' := (fun k_ => ((P0_1_ k_ ∨ P1_ k_) ∨ w.heap.size ≤ k_) ∧ k_ ≠ gb531)) (HO1.out) (fun k_ hk => ⟨hk.1, hk.2⟩))))) (Reps.none _ _))); intro v533 w47 ho48 hb hg_ hnew_; clear hg_ hnew_; (first | rw [← Ny532.out] at ho48 | (simp only [Int.reduceToNat] at ho48; rw [← Ny532.out] at ho48)); replace HO0_1 := zA (Kd.V_elder' (zPV HO0_1.out) (Kd.N_base ho48) hb); replace HO1 := zA (Kd.V_elder' (zPV HO1.out) (Kd.N_base ho48) hb); have HO534 := zA (Kd.N_lower ho48 (below_size (zT HB.out GE531.out))); replace BK531 := zA (blk_below (g := gb531) (o := .cells #[.int .i64 a0_0, .slice A0_1 l0_1.length c0_1] 26 (0, 0)) (zR BK531.out) hb); replace HB := zA (below_step (zT HB.out GE531.out) hb); clear hb ho48; obtain ⟨Ao49, co49, eo49⟩ := Kd.N_slice HO534.out; subst eo49) | ((with_reducible refine gate_callee (f := 49) rfl ?_); refine zO (some 16) Tryd.func49 #[.agg #[.int .i64 a0_0, .slice A0_1 l0_1.length c0_1], .slice Ao49 y532.length co49] ?_; (with_reducible refine (impl_checkWords.calls k a0_0 _ _ l0_1 _ _ y532 t535 _ ?side1 ?side2 ?side3 ?side4 ?side5 A4.out).mono ?_); (case side1 => exact zS (Kd.V_reads' HO0_1.out).2.2); (case side2 => exact (Kd.V_reads' HO0_1.out).2.1); (case side3 => exact zS (Kd.N_reads' HO534.out).2.2); (case side4 => exact (Kd.N_reads' HO534.out).2.1); (case side5 => exact TabW.below HT.out (zT HB.out GE531.out)); rintro e w50 ⟨rfl, hb⟩; refine ⟨_, rfl, ?_⟩; replace HO0_1 := zA (Kd.V_below (zPV HO0_1.out) hb); replace HO1 := zA (Kd.V_below (zPV HO1.out) hb); replace HO534 := zA (Kd.N_below (zPN HO534.out) hb); replace BK531 := zA (blk_below (g := gb531) (o := .cells #[.int .i64 a0_0, .slice A0_1 l0_1.length c0_1] 26 (0, 0)) (zR BK531.out) hb); replace HB := zA (below_step (zT HB.out GE531.out) hb); (try clear hb)))
 go_ret2
 exact ⟨_, zr, zn, zT HB.out GE531.out⟩

/-! ### spec_l04Code: function 86 -/
def spec_l04Code.f (k : Nat) (a0_0 : Int) (l0_1 : List Int) (l1 : List Int) : Option (List Int × List Int × Int) := (spec_l03Code.f k a0_0 l0_1 l1 l1).bind fun t565 => (if t565 = 0 then ((spec_l03Normal.f k a0_0 l0_1 l1).bind fun t566 => ((spec_l04Order.f k a0_0 l0_1 t566).bind fun t569 => (some (t566, t569, 0)))) else (some (([] : List Int), ([] : List Int), t565)))

set_option maxHeartbeats 8000000 in
set_option maxRecDepth 100000 in
theorem spec_l04Code.calls (k : Nat) (a0_0 : Int) (A0_1 : Option Addr) (c0_1 : Nat) (l0_1 : List Int) (A1 : Option Addr) (c1 : Nat) (l1 : List Int) (r1 : List Int) (r2 : List Int) (r3 : Int) (w : World) (hr0_1 : Kd.C (Kd.int .i64) w A0_1 l0_1.length l0_1) (hc0_1 : l0_1.length ≤ c0_1) (hr1 : Kd.C (Kd.int .i64) w A1 l1.length l1) (hc1 : l1.length ≤ c1) (h : spec_l04Code.f k a0_0 l0_1 l1 = some (r1, r2, r3)) :
  Calls Tryd.prog 86 #[.agg #[.int .i64 a0_0, .slice A0_1 l0_1.length c0_1], .slice A1 l1.length c1] w fun e w' => ∃ v0_ v1_ : Value, e = .returned (.tuple #[v0_, v1_, .int .i64 r3]) ∧ Kd.R (Kd.int .i64) 2 w' w.heap.size (fun k_ => some k_ ≠ (v1_ : Value).ownBlock) v0_ r1 ∧ Kd.R (Kd.int .i64) 2 w' w.heap.size (fun k_ => some k_ ≠ (v0_ : Value).ownBlock) v1_ r2 ∧ Below w.heap.size w w' := by
 have hu26 := Tryd.underlying26
 have HR0_1 := zA hr0_1
 have HC0_1 := zA hc0_1
 clear hr0_1 hc0_1
 have HR1 := zA hr1
 have HC1 := zA hc1
 clear hr1 hc1
 have HB := zA (Below.refl w.heap.size w)
 have H : ((spec_l03Code.f k a0_0 l0_1 l1 l1).bind fun t565 => (if t565 = 0 then ((spec_l03Normal.f k a0_0 l0_1 l1).bind fun t566 => ((spec_l04Order.f k a0_0 l0_1 t566).bind fun t569 => (some (t566, t569, 0)))) else (some (([] : List Int), ([] : List Int), t565)))) = some (r1, r2, r3) := h
 clear h
 obtain ⟨t565, A3, H⟩ := zb H
 try dsimp only at H
 by_cases c4 : t565 = 0
 ·rw [if_pos c4] at H
  have c4b0 : (t565 == 0) = true := beq_iff_eq.mpr c4
  have c4b1 : (t565 != 0) = false := bne_eq_false_iff_eq.mpr c4
  clear c4
  obtain ⟨t566, A5, H⟩ := zb H
  try dsimp only at H
  obtain ⟨t569, A6, H⟩ := zb H
  try dsimp only at H
  simp only [Option.some.injEq, Prod.mk.injEq] at H
  obtain ⟨rfl, rfl, rfl⟩ := H
  go_enter Tryd.func86, Tryd.ntmps86
  go_wp2_with (first | ((with_reducible refine gate_dst (N := 2) rfl ?_); refine box_event ?hg (N := 2) ?hd (cs := #[.int .i64 a0_0, .slice A0_1 l0_1.length c0_1]) (t := 26) ?hr ?_; (case hd => rfl); (case hg => rfl); (case hr => first | (go_simp; done) | (go_simp; rfl)); intro gb564 hg w7 hbox hb; have BK564 := zA (hbox); have GW564 := zA ((by rw [hg]; exact (below_size (zQ HB.out)) : w.heap.size ≤ gb564)); have GE564 := zA ((by rw [hg]; exact (below_size (zQ HB.out)) : w.heap.size ≤ gb564)); replace HB := zA (below_step (zQ HB.out) hb); clear hb hbox hg; have hcz8_0 : w7.cell? ⟨gb564, 0, none⟩ = some (.int .i64 a0_0) := (blk_cell BK564.out 0).trans rfl; have hcz8_1 : w7.cell? ⟨gb564, 1, none⟩ = some (.slice A0_1 l0_1.length c0_1) := (blk_cell BK564.out 1).trans rfl; have hfz8_0 := blk_frozen BK564.out 0; have hfz8_1 := blk_frozen BK564.out 1) | ((with_reducible refine gate_callee (f := 52) rfl ?_); refine zO (some 12) Tryd.func52 #[.agg #[.int .i64 a0_0, .slice A0_1 l0_1.length c0_1], .slice A1 l1.length c1, .slice A1 l1.length c1] ?_; (with_reducible refine (spec_l03Code.calls k a0_0 _ _ l0_1 _ _ l1 _ _ l1 t565 _ ?side1 ?side2 ?side3 ?side4 ?side5 ?side6 A3.out).mono ?_); (case side1 => exact zS (Kd.C_below HR0_1.out HB.out)); (case side2 => exact HC0_1.out); (case side3 => exact zS (Kd.C_below HR1.out HB.out)); (case side4 => exact HC1.out); (case side5 => exact zS (Kd.C_below HR1.out HB.out)); (case side6 => exact HC1.out); rintro e w9 ⟨rfl, hb⟩; refine ⟨_, rfl, ?_⟩; replace BK564 := zA (blk_below (g := gb564) (o := .cells #[.int .i64 a0_0, .slice A0_1 l0_1.length c0_1] 26 (0, 0)) (zR BK564.out) hb); replace HB := zA (below_step (zT HB.out GE564.out) hb); (try clear hb); have hcz10_0 : w9.cell? ⟨gb564, 0, none⟩ = some (.int .i64 a0_0) := (blk_cell BK564.out 0).trans rfl; have hcz10_1 : w9.cell? ⟨gb564, 1, none⟩ = some (.slice A0_1 l0_1.length c0_1) := (blk_cell BK564.out 1).trans rfl; have hfz10_0 := blk_frozen BK564.out 0; have hfz10_1 := blk_frozen BK564.out 1) | ((with_reducible refine gate_callee (f := 68) rfl ?_); refine zO (some 18) Tryd.func68 #[.agg #[.int .i64 a0_0, .slice A0_1 l0_1.length c0_1], .slice A1 l1.length c1] ?_; (with_reducible refine (spec_l03Normal.calls k a0_0 _ _ l0_1 _ _ l1 t566 _ ?side1 ?side2 ?side3 ?side4 A5.out).mono ?_); (case side1 => exact zS (Kd.C_below HR0_1.out HB.out)); (case side2 => exact HC0_1.out); (case side3 => exact zS (Kd.C_below HR1.out HB.out)); (case side4 => exact HC1.out); rintro e w11 ⟨v567, rfl, ho0, hb⟩; refine ⟨_, rfl, ?_⟩; have HO568 := zA (Kd.R_lower ho0 (below_size (zT HB.out GE564.out))); replace BK564 := zA (blk_below (g := gb564) (o := .cells #[.int .i64 a0_0, .slice A0_1 l0_1.length c0_1] 26 (0, 0)) (zR BK564.out) hb); replace HB := zA (below_step (zT HB.out GE564.out) hb); (try clear hb); (try clear ho0); have hcz12_0 : w11.cell? ⟨gb564, 0, none⟩ = some (.int .i64 a0_0) := (blk_cell BK564.out 0).trans rfl; have hcz12_1 : w11.cell? ⟨gb564, 1, none⟩ = some (.slice A0_1 l0_1.length c0_1) := (blk_cell BK564.out 1).trans rfl; have hfz12_0 := blk_frozen BK564.out 0; have hfz12_1 := blk_frozen BK564.out 1; obtain ⟨Ao13, co13, eo13⟩ := Kd.R_slice HO568.out; subst eo13) | ((with_reducible refine gate_callee (f := 78) rfl ?_); refine zO (some 22) Tryd.func78 #[.agg #[.int .i64 a0_0, .slice A0_1 l0_1.length c0_1], .slice Ao13 t566.length co13] ?_; (with_reducible refine (spec_l04Order.calls k a0_0 _ _ l0_1 _ _ t566 t569 _ ?side1 ?side2 ?side3 ?side4 A6.out).mono ?_); (case side1 => exact zS (Kd.C_below HR0_1.out HB.out)); (case side2 => exact HC0_1.out); (case side3 => exact zS (Kd.R_reads' HO568.out).2.2); (case side4 => exact (Kd.R_reads' HO568.out).2.1); rintro e w14 ⟨v570, rfl, ho0, hb⟩; refine ⟨_, rfl, ?_⟩; have HO571 := zA (Kd.R_lower (Kd.R_new' ho0 (Kd.R_lt (zP HO568.out))) (below_size (zT HB.out GE564.out))); replace HO568 := zA (Kd.R_elder' (zP HO568.out) (Kd.R_base ho0) hb); replace BK564 := zA (blk_below (g := gb564) (o := .cells #[.int .i64 a0_0, .slice A0_1 l0_1.length c0_1] 26 (0, 0)) (zR BK564.out) hb); replace HB := zA (below_step (zT HB.out GE564.out) hb); (try clear hb); (try clear ho0)))
  go_ret3
  exact ⟨_, _, zr, by (with_reducible repeat (first | apply zF | apply zG | apply zH)); exact Kd.R_mono HO568.out (fun _ hk => hk.2), by (with_reducible repeat (first | apply zF | apply zG | apply zH)); exact Kd.R_mono HO571.out (fun _ hk => hk.2), zT HB.out GE564.out⟩
 rw [if_neg c4] at H
 have c4b0 : (t565 == 0) = false := beq_eq_false_iff_ne.mpr c4
 have c4b1 : (t565 != 0) = true := bne_iff_ne.mpr c4
 simp only [Option.some.injEq, Prod.mk.injEq] at H
 obtain ⟨rfl, rfl, rfl⟩ := H
 go_enter Tryd.func86, Tryd.ntmps86
 go_wp2_with (first | ((with_reducible refine gate_dst (N := 2) rfl ?_); refine box_event ?hg (N := 2) ?hd (cs := #[.int .i64 a0_0, .slice A0_1 l0_1.length c0_1]) (t := 26) ?hr ?_; (case hd => rfl); (case hg => rfl); (case hr => first | (go_simp; done) | (go_simp; rfl)); intro gb564 hg w15 hbox hb; have BK564 := zA (hbox); have GW564 := zA ((by rw [hg]; exact (below_size (zQ HB.out)) : w.heap.size ≤ gb564)); have GE564 := zA ((by rw [hg]; exact (below_size (zQ HB.out)) : w.heap.size ≤ gb564)); replace HB := zA (below_step (zQ HB.out) hb); clear hb hbox hg; have hcz16_0 : w15.cell? ⟨gb564, 0, none⟩ = some (.int .i64 a0_0) := (blk_cell BK564.out 0).trans rfl; have hcz16_1 : w15.cell? ⟨gb564, 1, none⟩ = some (.slice A0_1 l0_1.length c0_1) := (blk_cell BK564.out 1).trans rfl; have hfz16_0 := blk_frozen BK564.out 0; have hfz16_1 := blk_frozen BK564.out 1) | ((with_reducible refine gate_callee (f := 52) rfl ?_); refine zO (some 12) Tryd.func52 #[.agg #[.int .i64 a0_0, .slice A0_1 l0_1.length c0_1], .slice A1 l1.length c1, .slice A1 l1.length c1] ?_; (with_reducible refine (spec_l03Code.calls k a0_0 _ _ l0_1 _ _ l1 _ _ l1 t565 _ ?side1 ?side2 ?side3 ?side4 ?side5 ?side6 A3.out).mono ?_); (case side1 => exact zS (Kd.C_below HR0_1.out HB.out)); (case side2 => exact HC0_1.out); (case side3 => exact zS (Kd.C_below HR1.out HB.out)); (case side4 => exact HC1.out); (case side5 => exact zS (Kd.C_below HR1.out HB.out)); (case side6 => exact HC1.out); rintro e w17 ⟨rfl, hb⟩; refine ⟨_, rfl, ?_⟩; replace BK564 := zA (blk_below (g := gb564) (o := .cells #[.int .i64 a0_0, .slice A0_1 l0_1.length c0_1] 26 (0, 0)) (zR BK564.out) hb); replace HB := zA (below_step (zT HB.out GE564.out) hb); (try clear hb)))
 go_ret3
 exact ⟨_, _, zr, zn, zn, zT HB.out GE564.out⟩

/-! ### spec_l04Down: function 87 -/
def spec_l04Down.l0 : Nat → List Int → Int → Int → Option (Bool)
 | 0, _, _, _ => none
 | k + 1, x0, x1, x5 => if x5 < (x0.length : Int) then ((spec_l01Bit.f x1 x5).bind fun t572 => (if t572 = true then (spec_l04Down.l0 k x0 x1 (wrap64 (x5 + 1))) else (if 0 ≤ x5 then (if (Go.bits .and .i64 (rd x0 x5) x1) = 0 then (spec_l04Down.l0 k x0 x1 (wrap64 (x5 + 1))) else (some false)) else (none)))) else (some true)
def spec_l04Down.f (k : Nat) (l0 : List Int) (a1 : Int) : Option (Bool) := spec_l04Down.l0 k l0 a1 0

set_option maxHeartbeats 8000000 in
set_option maxRecDepth 100000 in
theorem spec_l04Down.calls (k : Nat) (A0 : Option Addr) (c0 : Nat) (l0 : List Int) (a1 : Int) (r : Bool) (w : World) (hr0 : Kd.C (Kd.int .i64) w A0 l0.length l0) (hc0 : l0.length ≤ c0) (h : spec_l04Down.f k l0 a1 = some r) :
  Calls Tryd.prog 87 #[.slice A0 l0.length c0, .int .i64 a1] w fun e w' => e = .returned (.bool r) ∧ Drawn0 w w' := by
 have HR0 := zA hr0
 have HC0 := zA hc0
 clear hr0 hc0
 have H : (spec_l04Down.l0 k l0 a1 0) = some r := h
 clear h
 have H' := zA H
 clear H
 go_enter Tryd.func87, Tryd.ntmps87
 go_wp2
 go_loopg [5] k (fun kq v5 w' => ∃ (x5_1 : Int), v5 = .int .i64 x5_1 ∧ Aside0 (spec_l04Down.l0 kq l0 a1 x5_1 = some r) ∧ Aside0 (kq ≤ k) ∧ Drawn0 w w')
 case atStart => exact ⟨(0), (by first | rfl | (simp; done) | (simp [*]; done)), H', ⟨Nat.le_refl _⟩, by repeat (first | exact Drawn0.refl _ | apply Drawn0.step)⟩
 case round =>
  clear H'
  try clear p2
  obtain ⟨x5_1, rfl, HA, HK1, ⟨m1, rfl⟩⟩ := hrel
  cases gk with
  | zero => exact absurd HA.out (by simp [spec_l04Down.l0])
  | succ k1 =>
   have H := HA.out
   clear HA
   simp only [spec_l04Down.l0] at H
   by_cases c3 : x5_1 < (l0.length : Int)
   ·rw [if_pos c3] at H
    have c3b0 : decide (x5_1 < (l0.length : Int)) = true := decide_eq_true c3
    clear c3
    obtain ⟨t572, A4, H⟩ := zb H
    try dsimp only at H
    by_cases c5 : t572 = true
    ·subst c5
     have H1 : (spec_l04Down.l0 k1 l0 a1 (wrap64 (x5_1 + 1))) = some r := by rw [if_pos rfl] at H; exact H
     clear H
     have H := H1
     clear H1
     have H' := zA H
     clear H
     go_wp2_with (first | ((with_reducible refine gate_callee (f := 66) rfl ?_); refine zO (some 14) Tryd.func66 #[.int .i64 a1, .int .i64 x5_1] ?_; (with_reducible refine (spec_l01Bit.calls a1 x5_1 true _ A4.out).mono ?_); rintro e w' ⟨rfl, ⟨nd, rfl⟩⟩; refine ⟨_, rfl, ?_⟩))
     go_roundg k1
     case measure => have := HK1.out; omega
     case rel => exact ⟨(wrap64 (x5_1 + 1)), (by first | rfl | (simp; done) | (simp [*]; done)), H', ⟨by have := HK1.out; omega⟩, by repeat (first | exact Drawn0.refl _ | apply Drawn0.step)⟩
    replace c5 := Bool.eq_false_iff.mpr c5
    subst c5
    have H1 : (if 0 ≤ x5_1 then (if (Go.bits .and .i64 (rd l0 x5_1) a1) = 0 then (spec_l04Down.l0 k1 l0 a1 (wrap64 (x5_1 + 1))) else (some false)) else (none)) = some r := by rw [if_neg (show ¬ (false = true) by decide)] at H; exact H
    clear H
    have H := H1
    clear H1
    by_cases c6 : 0 ≤ x5_1
    ·rw [if_pos c6] at H
     have c6b0 : decide (0 ≤ x5_1) = true := decide_eq_true c6
     clear c6
     by_cases c7 : (Go.bits .and .i64 (rd l0 x5_1) a1) = 0
     ·rw [if_pos c7] at H
      have c7b0 : ((Go.bits .and .i64 (rd l0 x5_1) a1) == 0) = true := beq_iff_eq.mpr c7
      have c7b1 : ((Go.bits .and .i64 (rd l0 x5_1) a1) != 0) = false := bne_eq_false_iff_eq.mpr c7
      clear c7
      have H' := zA H
      clear H
      go_wp2_with (first | ((with_reducible refine gate_callee (f := 66) rfl ?_); refine zO (some 14) Tryd.func66 #[.int .i64 a1, .int .i64 x5_1] ?_; (with_reducible refine (spec_l01Bit.calls a1 x5_1 false _ A4.out).mono ?_); rintro e w' ⟨rfl, ⟨nd, rfl⟩⟩; refine ⟨_, rfl, ?_⟩; have p573 : 0 ≤ (x5_1 : Int) := zd; have q573 : x5_1 < (l0.length : Int) := zd; obtain ⟨ad573, e573, hx573_0⟩ := Kd.at_int HR0.out x5_1 p573 q573; cases e573; replace p573 := eq_true p573; replace q573 := eq_true q573))
      go_roundg k1
      case measure => have := HK1.out; omega
      case rel => exact ⟨(wrap64 (x5_1 + 1)), (by first | rfl | (simp; done) | (simp [*]; done)), H', ⟨by have := HK1.out; omega⟩, by repeat (first | exact Drawn0.refl _ | apply Drawn0.step)⟩
     rw [if_neg c7] at H
     have c7b0 : ((Go.bits .and .i64 (rd l0 x5_1) a1) == 0) = false := beq_eq_false_iff_ne.mpr c7
     have c7b1 : ((Go.bits .and .i64 (rd l0 x5_1) a1) != 0) = true := bne_iff_ne.mpr c7
     obtain rfl := Option.some.inj H
     go_wp2_with (first | ((with_reducible refine gate_callee (f := 66) rfl ?_); refine zO (some 14) Tryd.func66 #[.int .i64 a1, .int .i64 x5_1] ?_; (with_reducible refine (spec_l01Bit.calls a1 x5_1 false _ A4.out).mono ?_); rintro e w' ⟨rfl, ⟨nd, rfl⟩⟩; refine ⟨_, rfl, ?_⟩; have p573 : 0 ≤ (x5_1 : Int) := zd; have q573 : x5_1 < (l0.length : Int) := zd; obtain ⟨ad573, e573, hx573_0⟩ := Kd.at_int HR0.out x5_1 p573 q573; cases e573; replace p573 := eq_true p573; replace q573 := eq_true q573))
     go_ret
     exact ⟨by first | rfl | (simp; done) | (simp [*]; done), by repeat (first | exact Drawn0.refl _ | apply Drawn0.step)⟩
    rw [if_neg c6] at H
    exact absurd H (by simp)
   rw [if_neg c3] at H
   have c3b0 : decide (x5_1 < (l0.length : Int)) = false := decide_eq_false c3
   clear c3
   obtain rfl := Option.some.inj H
   go_wp2
   go_ret
   exact ⟨by first | rfl | (simp; done) | (simp [*]; done), by repeat (first | exact Drawn0.refl _ | apply Drawn0.step)⟩

/-! ### spec_PrefixAt: function 32 -/
mutual
def spec_PrefixAt.j0 : Nat → Int → List Int → List Int → Int → Bool → Int → List Int → Option (List Int × Int)
 | 0, _, _, _, _, _, _, _ => none
 | k + 1, x2, x8, x9, x10, x27, x583000, x583001 => if x27 = true then (spec_PrefixAt.j1 k x2 x8 x9 2 x583000 x583001) else (spec_PrefixAt.j1 k x2 x8 x9 x10 x583000 x583001)
def spec_PrefixAt.j1 : Nat → Int → List Int → List Int → Int → Int → List Int → Option (List Int × Int)
 | 0, _, _, _, _, _, _ => none
 | k + 1, x2, x8, x9, x10, x583000, x583001 => if x10 = 0 then ((spec_l04Down.f k x9 x2).bind fun t592 => (spec_PrefixAt.j2 k x2 x8 x10 (!t592) x583000 x583001)) else (spec_PrefixAt.j2 k x2 x8 x10 false x583000 x583001)
def spec_PrefixAt.j2 : Nat → Int → List Int → Int → Bool → Int → List Int → Option (List Int × Int)
 | 0, _, _, _, _, _, _ => none
 | k + 1, x2, x8, x10, x35, x583000, x583001 => if x35 = true then (spec_PrefixAt.j3 k x2 x8 5 x583000 x583001) else (spec_PrefixAt.j3 k x2 x8 x10 x583000 x583001)
def spec_PrefixAt.j3 : Nat → Int → List Int → Int → Int → List Int → Option (List Int × Int)
 | 0, _, _, _, _, _ => none
 | k + 1, x2, x8, x10, x583000, x583001 => if x10 = 0 then ((spec_l04At.f k x8 x2).bind fun t593 => ((spec_l03Normal.f k x583000 x583001 t593).bind fun t596 => (some (t596, 0)))) else (some (([] : List Int), x10))
end
def spec_PrefixAt.f (k : Nat) (a0_0 : Int) (l0_1 : List Int) (l1 : List Int) (a2 : Int) : Option (List Int × Int) := (spec_l04Code.f k a0_0 l0_1 l1).bind fun bt583 => (if bt583.2.2 = 0 then ((spec_l01Full.f (l1.length : Int)).bind fun t590 => ((spec_l01In.f a2 0 t590).bind fun t591 => (spec_PrefixAt.j0 k a2 bt583.1 bt583.2.1 bt583.2.2 (!t591) a0_0 l0_1))) else (spec_PrefixAt.j0 k a2 bt583.1 bt583.2.1 bt583.2.2 false a0_0 l0_1))

set_option maxHeartbeats 8000000 in
set_option maxRecDepth 100000 in
theorem spec_PrefixAt.calls (k : Nat) (a0_0 : Int) (A0_1 : Option Addr) (c0_1 : Nat) (l0_1 : List Int) (A1 : Option Addr) (c1 : Nat) (l1 : List Int) (a2 : Int) (r1 : List Int) (r2 : Int) (w : World) (hr0_1 : Kd.C (Kd.int .i64) w A0_1 l0_1.length l0_1) (hc0_1 : l0_1.length ≤ c0_1) (hr1 : Kd.C (Kd.int .i64) w A1 l1.length l1) (hc1 : l1.length ≤ c1) (h : spec_PrefixAt.f k a0_0 l0_1 l1 a2 = some (r1, r2)) :
  Calls Tryd.prog 32 #[.agg #[.int .i64 a0_0, .slice A0_1 l0_1.length c0_1], .slice A1 l1.length c1, .int .i64 a2] w fun e w' => ∃ v0_ : Value, e = .returned (.tuple #[v0_, .int .i64 r2]) ∧ Kd.R (Kd.int .i64) 2 w' w.heap.size (fun _ => True) v0_ r1 ∧ Below w.heap.size w w' := by
 have hu26 := Tryd.underlying26
 have HR0_1 := zA hr0_1
 have HC0_1 := zA hc0_1
 clear hr0_1 hc0_1
 have HR1 := zA hr1
 have HC1 := zA hc1
 clear hr1 hc1
 have HB := zA (Below.refl w.heap.size w)
 have H : ((spec_l04Code.f k a0_0 l0_1 l1).bind fun bt583 => (if bt583.2.2 = 0 then ((spec_l01Full.f (l1.length : Int)).bind fun t590 => ((spec_l01In.f a2 0 t590).bind fun t591 => (spec_PrefixAt.j0 k a2 bt583.1 bt583.2.1 bt583.2.2 (!t591) a0_0 l0_1))) else (spec_PrefixAt.j0 k a2 bt583.1 bt583.2.1 bt583.2.2 false a0_0 l0_1))) = some (r1, r2) := h
 clear h
 obtain ⟨⟨t583, t586, t589⟩, A4, H⟩ := zb H
 try dsimp only at H
 have HC5 := zA H
 clear H
 go_enter Tryd.func32, Tryd.ntmps32
 go_upto_region 2 with (first | ((with_reducible refine gate_dst (N := 3) rfl ?_); refine box_event ?hg (N := 3) ?hd (cs := #[.int .i64 a0_0, .slice A0_1 l0_1.length c0_1]) (t := 26) ?hr ?_; (case hd => rfl); (case hg => rfl); (case hr => first | (go_simp; done) | (go_simp; rfl)); intro gb582 hg w6 hbox hb; have n0_ := zA (below_step (zQ HB.out) hb); have n1_ := zA (hbox); have n2_ := zA ((by rw [hg]; exact (below_size (zQ HB.out)) : w.heap.size ≤ gb582)); have n3_ := zA ((by rw [hg]; exact (below_size (zQ HB.out)) : w.heap.size ≤ gb582)); clear HB; have HB := n0_; have BK582 := n1_; have GW582 := n2_; have GE582 := n3_; clear n0_ n1_ n2_ n3_; clear hb hbox hg; have hcz7_0 : w6.cell? ⟨gb582, 0, none⟩ = some (.int .i64 a0_0) := (blk_cell BK582.out 0).trans rfl; have hcz7_1 : w6.cell? ⟨gb582, 1, none⟩ = some (.slice A0_1 l0_1.length c0_1) := (blk_cell BK582.out 1).trans rfl; have hfz7_0 := blk_frozen BK582.out 0; have hfz7_1 := blk_frozen BK582.out 1) | ((with_reducible refine gate_callee (f := 86) rfl ?_); refine zO (some 14) Tryd.func86 #[.agg #[.int .i64 a0_0, .slice A0_1 l0_1.length c0_1], .slice A1 l1.length c1] ?_; (with_reducible refine (spec_l04Code.calls k a0_0 _ _ l0_1 _ _ l1 t583 t586 t589 _ ?side1 ?side2 ?side3 ?side4 A4.out).mono ?_); (case side1 => exact zS (Kd.C_below HR0_1.out HB.out)); (case side2 => exact HC0_1.out); (case side3 => exact zS (Kd.C_below HR1.out HB.out)); (case side4 => exact HC1.out); rintro e w8 ⟨v584, v587, rfl, ho0, ho1, hb⟩; refine ⟨_, rfl, ?_⟩; have n0_ := zA (Kd.R_lower ho0 (below_size (zT HB.out GE582.out))); have n1_ := zA (Kd.R_lower ho1 (below_size (zT HB.out GE582.out))); have n2_ := zA (blk_below (g := gb582) (o := .cells #[.int .i64 a0_0, .slice A0_1 l0_1.length c0_1] 26 (0, 0)) (zR BK582.out) hb); have n3_ := zA (below_step (zT HB.out GE582.out) hb); clear BK582; clear HB; have HO585 := n0_; have HO588 := n1_; have BK582 := n2_; have HB := n3_; clear n0_ n1_ n2_ n3_; (try clear hb); (try clear ho0); (try clear ho1)))
 (try simp only [Act.put, zL, zM, zN])
 go_cut [27] (fun v27 wc => ∃ (kq : Nat) (x27_4 : Bool), v27 = .bool x27_4 ∧ Aside0 (spec_PrefixAt.j0 kq a2 t583 t586 t589 x27_4 a0_0 l0_1 = some (r1, r2)) ∧ Aside0 (kq ≤ k) ∧ Aside0 (Kd.R (Kd.int .i64) 2 wc w.heap.size (fun k_ => some k_ ≠ (v587 : Value).ownBlock) v584 t583) ∧ Aside0 (Kd.R (Kd.int .i64) 2 wc w.heap.size (fun k_ => some k_ ≠ (v584 : Value).ownBlock) v587 t586) ∧ Aside0 (wc.heap[gb582]? = some (.cells #[.int .i64 a0_0, (.slice A0_1 l0_1.length c0_1)] 26 (0, 0))) ∧ Aside0 (Below w.heap.size w wc))
 case first =>
  have H := HC5.out
  clear HC5
  by_cases c9 : t589 = 0
  ·rw [if_pos c9] at H
   have c9b0 : (t589 == 0) = true := beq_iff_eq.mpr c9
   have c9b1 : (t589 != 0) = false := bne_eq_false_iff_eq.mpr c9
   clear c9
   (first | rw [c9b0] | (simp only [i64_w, i32_w]; rw [c9b0]) | skip)
   obtain ⟨t590, A10, H⟩ := zb H
   try dsimp only at H
   obtain ⟨t591, A11, H⟩ := zb H
   try dsimp only at H
   have H' := zA H
   clear H
   go_wp2_with (first | (go_at_call 65; (with_reducible refine (spec_l01Full.calls (l1.length : Int) t590 _ A10.out).mono ?_); rintro e w' ⟨rfl, ⟨nd, rfl⟩⟩) | (go_at_call 64; (with_reducible refine (spec_l01In.calls a2 0 t590 t591 _ A11.out).mono ?_); rintro e w' ⟨rfl, ⟨nd, rfl⟩⟩))
   go_meet
   case rel => exact ⟨_, (!t591), (by first | rfl | (simp; done) | (simp [*]; done)), H', ⟨by first | omega | exact Nat.le_refl _⟩, ⟨by (with_reducible repeat (first | apply zF | apply zG | apply zH)); exact HO585.out⟩, ⟨by (with_reducible repeat (first | apply zF | apply zG | apply zH)); exact HO588.out⟩, ⟨by (with_reducible repeat (first | refine zJ ?_ _ | refine zK ?_ | refine zI ?_ _)); exact BK582.out⟩, ⟨zT HB.out GE582.out⟩⟩
  rw [if_neg c9] at H
  have c9b0 : (t589 == 0) = false := beq_eq_false_iff_ne.mpr c9
  have c9b1 : (t589 != 0) = true := bne_iff_ne.mpr c9
  (first | rw [c9b0] | (simp only [i64_w, i32_w]; rw [c9b0]) | skip)
  have H' := zA H
  clear H
  go_wp2
  go_meet
  case rel => exact ⟨_, (false), (by first | rfl | (simp; done) | (simp [*]; done)), H', ⟨by first | omega | exact Nat.le_refl _⟩, ⟨by (with_reducible repeat (first | apply zF | apply zG | apply zH)); exact HO585.out⟩, ⟨by (with_reducible repeat (first | apply zF | apply zG | apply zH)); exact HO588.out⟩, ⟨by (with_reducible repeat (first | refine zJ ?_ _ | refine zK ?_ | refine zI ?_ _)); exact BK582.out⟩, ⟨zT HB.out GE582.out⟩⟩
 case rest =>
  clear HC5
  try clear c1
  try clear p2
  try clear c3
  try clear c8
  try clear c9
  try clear c9b0
  try clear c9b1
  try clear hcz7_0
  try clear hcz7_1
  try clear hfz7_0
  try clear hfz7_1
  obtain ⟨kq, x27_4, rfl, HA, HJ4, HO_8, HO_9, BK582, HB⟩ := hcut
  cases kq with
  | zero => exact absurd HA.out (by simp [spec_PrefixAt.j0])
  | succ kj4 =>
   have H := HA.out
   clear HA
   simp only [spec_PrefixAt.j0] at H
   have HC12 := zA H
   clear H
   go_upto_if 27 with (fail)
   go_cut [10] (fun v10 wc => ∃ (kq : Nat) (x10_11 : Int), v10 = .int .i64 x10_11 ∧ Aside0 (spec_PrefixAt.j1 kq a2 t583 t586 x10_11 a0_0 l0_1 = some (r1, r2)) ∧ Aside0 (kq ≤ kj4) ∧ Aside0 (Kd.R (Kd.int .i64) 2 wc w.heap.size (fun k_ => some k_ ≠ (v587 : Value).ownBlock) v584 t583) ∧ Aside0 (Kd.R (Kd.int .i64) 2 wc w.heap.size (fun k_ => some k_ ≠ (v584 : Value).ownBlock) v587 t586) ∧ Aside0 (wc.heap[gb582]? = some (.cells #[.int .i64 a0_0, (.slice A0_1 l0_1.length c0_1)] 26 (0, 0))) ∧ Aside0 (Below w.heap.size w wc))
   case first =>
    have H := HC12.out
    clear HC12
    by_cases c13 : x27_4 = true
    ·subst c13
     have H1 : (spec_PrefixAt.j1 kj4 a2 t583 t586 2 a0_0 l0_1) = some (r1, r2) := by rw [if_pos rfl] at H; exact H
     clear H
     have H := H1
     clear H1
     have H' := zA H
     clear H
     go_wp2
     go_meet
     case rel => exact ⟨_, (2), (by first | rfl | (simp; done) | (simp [*]; done)), H', ⟨by have := HJ4.out; first | omega | exact Nat.le_refl _⟩, ⟨by (with_reducible repeat (first | apply zF | apply zG | apply zH)); exact HO_8.out⟩, ⟨by (with_reducible repeat (first | apply zF | apply zG | apply zH)); exact HO_9.out⟩, ⟨by (with_reducible repeat (first | refine zJ ?_ _ | refine zK ?_ | refine zI ?_ _)); exact BK582.out⟩, ⟨zT HB.out GE582.out⟩⟩
    replace c13 := Bool.eq_false_iff.mpr c13
    subst c13
    have H1 : (spec_PrefixAt.j1 kj4 a2 t583 t586 t589 a0_0 l0_1) = some (r1, r2) := by rw [if_neg (show ¬ (false = true) by decide)] at H; exact H
    clear H
    have H := H1
    clear H1
    have H' := zA H
    clear H
    go_wp2
    go_meet
    case rel => exact ⟨_, (t589), (by first | rfl | (simp; done) | (simp [*]; done)), H', ⟨by have := HJ4.out; first | omega | exact Nat.le_refl _⟩, ⟨by (with_reducible repeat (first | apply zF | apply zG | apply zH)); exact HO_8.out⟩, ⟨by (with_reducible repeat (first | apply zF | apply zG | apply zH)); exact HO_9.out⟩, ⟨by (with_reducible repeat (first | refine zJ ?_ _ | refine zK ?_ | refine zI ?_ _)); exact BK582.out⟩, ⟨zT HB.out GE582.out⟩⟩
   case rest =>
    clear HC12
    try clear c1
    try clear p2
    try clear c3
    try clear c8
    try clear c9
    try clear c9b0
    try clear c9b1
    try clear c13
    try clear hcz7_0
    try clear hcz7_1
    try clear hfz7_0
    try clear hfz7_1
    try clear p2
    obtain ⟨kq, x10_11, rfl, HA, HJ11, HO_8, HO_9, BK582, HB⟩ := hcut
    cases kq with
    | zero => exact absurd HA.out (by simp [spec_PrefixAt.j1])
    | succ kj11 =>
     have H := HA.out
     clear HA
     simp only [spec_PrefixAt.j1] at H
     have HC14 := zA H
     clear H
     go_upto_region 4 with (fail)
     go_cut [35] (fun v35 wc => ∃ (kq : Nat) (x35_13 : Bool), v35 = .bool x35_13 ∧ Aside0 (spec_PrefixAt.j2 kq a2 t583 x10_11 x35_13 a0_0 l0_1 = some (r1, r2)) ∧ Aside0 (kq ≤ kj11) ∧ Aside0 (Kd.R (Kd.int .i64) 2 wc w.heap.size (fun _ => True) v584 t583) ∧ Aside0 (wc.heap[gb582]? = some (.cells #[.int .i64 a0_0, (.slice A0_1 l0_1.length c0_1)] 26 (0, 0))) ∧ Aside0 (Below w.heap.size w wc))
     case first =>
      have H := HC14.out
      clear HC14
      by_cases c15 : x10_11 = 0
      ·rw [if_pos c15] at H
       have c15b0 : (x10_11 == 0) = true := beq_iff_eq.mpr c15
       have c15b1 : (x10_11 != 0) = false := bne_eq_false_iff_eq.mpr c15
       clear c15
       (first | rw [c15b0] | (simp only [i64_w, i32_w]; rw [c15b0]) | skip)
       obtain ⟨t592, A16, H⟩ := zb H
       try dsimp only at H
       have H' := zA H
       clear H
       obtain ⟨Ao17, co17, eo17⟩ := Kd.R_slice HO_9.out
       subst eo17
       go_wp2_with (first | (go_at_call 87; (with_reducible refine (spec_l04Down.calls kj11 _ _ t586 a2 t592 _ ?side1 ?side2 A16.out).mono ?_); (case side1 => exact zS (Kd.R_reads' HO_9.out).2.2); (case side2 => exact (Kd.R_reads' HO_9.out).2.1); rintro e w' ⟨rfl, ⟨nd, rfl⟩⟩))
       go_meet
       case rel => exact ⟨_, (!t592), (by first | rfl | (simp; done) | (simp [*]; done)), H', ⟨by have := HJ4.out; have := HJ11.out; first | omega | exact Nat.le_refl _⟩, ⟨by (with_reducible repeat (first | apply zF | apply zG | apply zH)); exact Kd.R_mono HO_8.out (fun _ hk => trivial)⟩, ⟨by (with_reducible repeat (first | refine zJ ?_ _ | refine zK ?_ | refine zI ?_ _)); exact BK582.out⟩, ⟨zT HB.out GE582.out⟩⟩
      rw [if_neg c15] at H
      have c15b0 : (x10_11 == 0) = false := beq_eq_false_iff_ne.mpr c15
      have c15b1 : (x10_11 != 0) = true := bne_iff_ne.mpr c15
      (first | rw [c15b0] | (simp only [i64_w, i32_w]; rw [c15b0]) | skip)
      have H' := zA H
      clear H
      go_wp2
      go_meet
      case rel => exact ⟨_, (false), (by first | rfl | (simp; done) | (simp [*]; done)), H', ⟨by have := HJ4.out; have := HJ11.out; first | omega | exact Nat.le_refl _⟩, ⟨by (with_reducible repeat (first | apply zF | apply zG | apply zH)); exact Kd.R_mono HO_8.out (fun _ hk => trivial)⟩, ⟨by (with_reducible repeat (first | refine zJ ?_ _ | refine zK ?_ | refine zI ?_ _)); exact BK582.out⟩, ⟨zT HB.out GE582.out⟩⟩
     case rest =>
      clear HC14
      try clear c1
      try clear p2
      try clear c3
      try clear c8
      try clear c9
      try clear c9b0
      try clear c9b1
      try clear c13
      try clear c15
      try clear c15b0
      try clear c15b1
      try clear hcz7_0
      try clear hcz7_1
      try clear hfz7_0
      try clear hfz7_1
      try clear p2
      obtain ⟨kq, x35_13, rfl, HA, HJ13, HO_8, BK582, HB⟩ := hcut
      cases kq with
      | zero => exact absurd HA.out (by simp [spec_PrefixAt.j2])
      | succ kj13 =>
       have H := HA.out
       clear HA
       simp only [spec_PrefixAt.j2] at H
       have HC18 := zA H
       clear H
       go_upto_if 35 with (fail)
       go_cut [10] (fun v10 wc => ∃ (kq : Nat) (x10_17 : Int), v10 = .int .i64 x10_17 ∧ Aside0 (spec_PrefixAt.j3 kq a2 t583 x10_17 a0_0 l0_1 = some (r1, r2)) ∧ Aside0 (kq ≤ kj13) ∧ Aside0 (Kd.R (Kd.int .i64) 2 wc w.heap.size (fun _ => True) v584 t583) ∧ Aside0 (wc.heap[gb582]? = some (.cells #[.int .i64 a0_0, (.slice A0_1 l0_1.length c0_1)] 26 (0, 0))) ∧ Aside0 (Below w.heap.size w wc))
       case first =>
        have H := HC18.out
        clear HC18
        by_cases c19 : x35_13 = true
        ·subst c19
         have H1 : (spec_PrefixAt.j3 kj13 a2 t583 5 a0_0 l0_1) = some (r1, r2) := by rw [if_pos rfl] at H; exact H
         clear H
         have H := H1
         clear H1
         have H' := zA H
         clear H
         go_wp2
         go_meet
         case rel => exact ⟨_, (5), (by first | rfl | (simp; done) | (simp [*]; done)), H', ⟨by have := HJ4.out; have := HJ11.out; have := HJ13.out; first | omega | exact Nat.le_refl _⟩, ⟨by (with_reducible repeat (first | apply zF | apply zG | apply zH)); exact HO_8.out⟩, ⟨by (with_reducible repeat (first | refine zJ ?_ _ | refine zK ?_ | refine zI ?_ _)); exact BK582.out⟩, ⟨zT HB.out GE582.out⟩⟩
        replace c19 := Bool.eq_false_iff.mpr c19
        subst c19
        have H1 : (spec_PrefixAt.j3 kj13 a2 t583 x10_11 a0_0 l0_1) = some (r1, r2) := by rw [if_neg (show ¬ (false = true) by decide)] at H; exact H
        clear H
        have H := H1
        clear H1
        have H' := zA H
        clear H
        go_wp2
        go_meet
        case rel => exact ⟨_, (x10_11), (by first | rfl | (simp; done) | (simp [*]; done)), H', ⟨by have := HJ4.out; have := HJ11.out; have := HJ13.out; first | omega | exact Nat.le_refl _⟩, ⟨by (with_reducible repeat (first | apply zF | apply zG | apply zH)); exact HO_8.out⟩, ⟨by (with_reducible repeat (first | refine zJ ?_ _ | refine zK ?_ | refine zI ?_ _)); exact BK582.out⟩, ⟨zT HB.out GE582.out⟩⟩
       case rest =>
        clear HC18
        try clear c1
        try clear p2
        try clear c3
        try clear c8
        try clear c9
        try clear c9b0
        try clear c9b1
        try clear c13
        try clear c15
        try clear c15b0
        try clear c15b1
        try clear c19
        try clear hcz7_0
        try clear hcz7_1
        try clear hfz7_0
        try clear hfz7_1
        try clear p2
        obtain ⟨kq, x10_17, rfl, HA, HJ17, HO_8, BK582, HB⟩ := hcut
        cases kq with
        | zero => exact absurd HA.out (by simp [spec_PrefixAt.j3])
        | succ kj17 =>
         have H := HA.out
         clear HA
         simp only [spec_PrefixAt.j3] at H
         by_cases c20 : x10_17 = 0
         ·rw [if_pos c20] at H
          have c20b0 : (x10_17 == 0) = true := beq_iff_eq.mpr c20
          have c20b1 : (x10_17 != 0) = false := bne_eq_false_iff_eq.mpr c20
          clear c20
          obtain ⟨t593, A21, H⟩ := zb H
          try dsimp only at H
          obtain ⟨t596, A22, H⟩ := zb H
          try dsimp only at H
          simp only [Option.some.injEq, Prod.mk.injEq] at H
          obtain ⟨rfl, rfl⟩ := H
          try go_wp2
          replace HO_8 := zA (zH HO_8.out)
          replace BK582 := zA (zK BK582.out)
          replace HB := zA (zD HB.out)
          obtain ⟨Ao24, co24, eo24⟩ := Kd.R_slice HO_8.out
          (first | subst eo24 | (injection eo24 with f1_ f2_ f3_; have f4_ := f1_.symm; have f5_ := f3_.symm; clear f1_ f2_ f3_; subst f4_; subst f5_))
          refine start_ (n := 7) (S := fun w' => w'.cell? ⟨gb582, 0, none⟩ = some (.int .i64 a0_0) ∧ w'.cell? ⟨gb582, 1, none⟩ = some (.slice A0_1 l0_1.length c0_1)) (ds := []) #[false, false, false, false, false, false, false] (by kernel_rfl) rfl rfl ⟨(blk_cell BK582.out 0).trans rfl, (blk_cell BK582.out 1).trans rfl⟩ (fun hHeld => ?_)
          generalize wc.drew = w23 at HO_8 BK582 HB hHeld ⊢
          refine pure_ (i := 1) (N := some 40) (v := ?_) (a' := ?_) #[false, true, false, false, false, false, false] rfl rfl (by kernel_rfl) (fun _ _ _ h => h) (Or.inl ⟨by rfl, ?_⟩) ?_ ?_
          rotate_left
          ·intro w'
           go_simp
           with_reducible rfl
          rotate_left
          ·simp only [Act.put, zL, zM, zN, i64_w, i32_w]
           rfl
          refine pure_ (i := 2) (N := some 41) (v := ?_) (a' := ?_) #[false, true, true, false, false, false, false] rfl rfl (by kernel_rfl) (fun _ _ _ h => h) (Or.inl ⟨by rfl, ?_⟩) ?_ ?_
          rotate_left
          ·intro w'
           go_simp
           with_reducible rfl
          rotate_left
          ·simp only [Act.put, zL, zM, zN, i64_w, i32_w]
           rfl
          refine take_ (i := 0) (N := some 39) (v := ?_) (a' := ?_) #[true, true, true, false, false, false, false] rfl rfl (by kernel_rfl) (fun _ _ _ h => h) (Or.inl ⟨by rfl, ?_⟩) hHeld ?_ ?_
          rotate_left
          ·rintro w' ⟨s0, s1⟩
           go_simp
           with_reducible rfl
          rotate_left
          ·simp only [Act.put, zL, zM, zN, i64_w, i32_w]
           rfl
          refine one_ (i := 3) (N := some 42) #[true, true, true, true, false, false, false] rfl rfl (by kernel_rfl) (by decide) (fun K hK => ?_)
          refine goes_ Tryd.func88 (by kernel_rfl) rfl #[.slice Ao24 t583.length co24, .int .i64 a2] (by rfl) rfl rfl (by (try simp only [List.map_toArray, List.map_cons, List.map_nil]); first | done | rfl | (simp only [List.length_drop, List.length_take]; rfl)) ?_
          with_reducible refine (spec_l04At.calls kj17 _ _ t583 a2 t593 _ ?side1 ?side2 A21.out).mono ?_
          (case side1 => exact zS (Kd.R_reads' HO_8.out).2.2)
          (case side2 => exact (Kd.R_reads' HO_8.out).2.1)
          rintro e w25 ⟨v594, rfl, ho0, hb⟩
          refine ⟨_, rfl, ?_⟩
          have HO595 := zA (Kd.R_lower (Kd.R_new' ho0 (Kd.R_lt (zP HO_8.out))) (below_size (zT HB.out GE582.out)))
          replace HO_8 := zA (Kd.R_elder' (zP HO_8.out) (Kd.R_base ho0) hb)
          replace BK582 := zA (blk_below (g := gb582) (o := .cells #[.int .i64 a0_0, .slice A0_1 l0_1.length c0_1] 26 (0, 0)) (zR BK582.out) hb)
          replace HB := zA (below_step (zT HB.out GE582.out) hb)
          (try clear hb)
          (try clear hb2)
          (try clear hk)
          (try clear hi)
          (try clear hgw)
          (try clear ho0)
          obtain ⟨Ao26, co26, eo26⟩ := Kd.R_slice HO595.out
          (first | subst eo26 | (injection eo26 with f1_ f2_ f3_; have f4_ := f1_.symm; have f5_ := f3_.symm; clear f1_ f2_ f3_; subst f4_; subst f5_))
          refine hK.out _ _ ⟨(blk_cell BK582.out 0).trans rfl, (blk_cell BK582.out 1).trans rfl⟩ (fun hHeld => ?_)
          clear hK K
          refine norm_ (a' := ?_) ?_ ?_
          rotate_left
          ·show Act.put _ (some 42) _ = _
           simp only [Act.put, zL, zM, zN, i64_w, i32_w]
           rfl
          refine one_ (i := 4) (N := some 43) #[true, true, true, true, true, false, false] rfl rfl (by kernel_rfl) (by decide) (fun K hK => ?_)
          refine goes_ Tryd.func68 (by kernel_rfl) rfl #[.agg #[.int .i64 a0_0, .slice A0_1 l0_1.length c0_1], .slice Ao26 t593.length co26] (by rfl) rfl rfl (by (try simp only [List.map_toArray, List.map_cons, List.map_nil]); first | done | rfl | (simp only [List.length_drop, List.length_take]; rfl)) ?_
          with_reducible refine (spec_l03Normal.calls kj17 a0_0 _ _ l0_1 _ _ t593 t596 _ ?side1 ?side2 ?side3 ?side4 A22.out).mono ?_
          (case side1 => exact zS (Kd.C_below HR0_1.out HB.out))
          (case side2 => exact HC0_1.out)
          (case side3 => exact zS (Kd.R_reads' HO595.out).2.2)
          (case side4 => exact (Kd.R_reads' HO595.out).2.1)
          rintro e w27 ⟨v597, rfl, ho0, hb⟩
          refine ⟨_, rfl, ?_⟩
          have HO598 := zA (Kd.R_lower (Kd.R_new' (Kd.R_new' ho0 (Kd.R_lt (zP HO_8.out))) (Kd.R_lt (zP HO595.out))) (below_size (zT HB.out GE582.out)))
          replace HO_8 := zA (Kd.R_elder' (zP HO_8.out) (Kd.R_base ho0) hb)
          replace HO595 := zA (Kd.R_elder' (zP HO595.out) (Kd.R_base ho0) hb)
          replace BK582 := zA (blk_below (g := gb582) (o := .cells #[.int .i64 a0_0, .slice A0_1 l0_1.length c0_1] 26 (0, 0)) (zR BK582.out) hb)
          replace HB := zA (below_step (zT HB.out GE582.out) hb)
          (try clear hb)
          (try clear hb2)
          (try clear hk)
          (try clear hi)
          (try clear hgw)
          (try clear ho0)
          refine hK.out _ _ ⟨(blk_cell BK582.out 0).trans rfl, (blk_cell BK582.out 1).trans rfl⟩ (fun hHeld => ?_)
          clear hK K
          refine norm_ (a' := ?_) ?_ ?_
          rotate_left
          ·show Act.put _ (some 43) _ = _
           simp only [Act.put, zL, zM, zN, i64_w, i32_w]
           rfl
          refine pure_ (i := 5) (N := some 6) (v := ?_) (a' := ?_) #[true, true, true, true, true, true, false] rfl rfl (by kernel_rfl) (fun _ _ _ h => h) (Or.inl ⟨by rfl, ?_⟩) ?_ ?_
          rotate_left
          ·intro w'
           go_simp
           with_reducible rfl
          rotate_left
          ·simp only [Act.put, zL, zM, zN, i64_w, i32_w]
           rfl
          refine pure_ (i := 6) (N := some 7) (v := ?_) (a' := ?_) #[true, true, true, true, true, true, true] rfl rfl (by kernel_rfl) (fun _ _ _ h => h) (Or.inl ⟨by rfl, ?_⟩) ?_ ?_
          rotate_left
          ·intro w'
           go_simp
           with_reducible rfl
          rotate_left
          ·simp only [Act.put, zL, zM, zN, i64_w, i32_w]
           rfl
          refine done_ (by kernel_rfl) ?_
          try go_wp2
          go_ret2
          exact ⟨_, zr, by (with_reducible repeat (first | apply zF | apply zG | apply zH)); exact Kd.R_mono HO598.out (fun _ hk => trivial), zT HB.out GE582.out⟩
         rw [if_neg c20] at H
         have c20b0 : (x10_17 == 0) = false := beq_eq_false_iff_ne.mpr c20
         have c20b1 : (x10_17 != 0) = true := bne_iff_ne.mpr c20
         simp only [Option.some.injEq, Prod.mk.injEq] at H
         obtain ⟨rfl, rfl⟩ := H
         go_wp2
         go_ret2
         exact ⟨_, zr, zn, zT HB.out GE582.out⟩

/-! ### laws_bits5: function 33 -/
def laws_bits5.l0 : Nat → Int → Int → Option (Int)
 | 0, _, _ => none
 | k + 1, x0, x3 => if x0 > 0 then (laws_bits5.l0 k (wrap64 (Int.tdiv x0 2)) (wrap64 (x3 + (Int.tmod x0 2)))) else (some x3)
def laws_bits5.f (k : Nat) (a0 : Int) : Option (Int) := laws_bits5.l0 k a0 0

set_option maxHeartbeats 8000000 in
set_option maxRecDepth 100000 in
theorem laws_bits5.calls (k : Nat) (a0 : Int) (r : Int) (w : World) (h : laws_bits5.f k a0 = some r) :
  Calls Tryd.prog 33 #[.int .i64 a0] w fun e w' => e = .returned (.int .i64 r) ∧ Drawn0 w w' := by
 have H : (laws_bits5.l0 k a0 0) = some r := h
 clear h
 have H' := zA H
 clear H
 go_enter Tryd.func33, Tryd.ntmps33
 go_wp2
 go_loopg [0, 3] k (fun kq v0 v3 w' => ∃ (x0_1 : Int) (x3_1 : Int), v0 = .int .i64 x0_1 ∧ v3 = .int .i64 x3_1 ∧ Aside0 (laws_bits5.l0 kq x0_1 x3_1 = some r) ∧ Aside0 (kq ≤ k) ∧ Drawn0 w w')
 case atStart => exact ⟨(a0), (0), (by first | rfl | (simp; done) | (simp [*]; done)), (by first | rfl | (simp; done) | (simp [*]; done)), H', ⟨Nat.le_refl _⟩, by repeat (first | exact Drawn0.refl _ | apply Drawn0.step)⟩
 case round =>
  clear H'
  obtain ⟨x0_1, x3_1, rfl, rfl, HA, HK1, ⟨m1, rfl⟩⟩ := hrel
  cases gk with
  | zero => exact absurd HA.out (by simp [laws_bits5.l0])
  | succ k1 =>
   have H := HA.out
   clear HA
   simp only [laws_bits5.l0] at H
   by_cases c2 : x0_1 > 0
   ·rw [if_pos c2] at H
    have c2b0 : decide (0 < x0_1) = true := decide_eq_true c2
    clear c2
    have H' := zA H
    clear H
    go_wp2
    go_roundg k1
    case measure => have := HK1.out; omega
    case rel => exact ⟨(wrap64 (Int.tdiv x0_1 2)), (wrap64 (x3_1 + (Int.tmod x0_1 2))), (by first | rfl | (simp; done) | (simp [*]; done)), (by first | rfl | (simp; done) | (simp [*]; done)), H', ⟨by have := HK1.out; omega⟩, by repeat (first | exact Drawn0.refl _ | apply Drawn0.step)⟩
   rw [if_neg c2] at H
   have c2b0 : decide (0 < x0_1) = false := decide_eq_false c2
   clear c2
   obtain rfl := Option.some.inj H
   go_wp2
   go_ret
   exact ⟨by first | rfl | (simp; done) | (simp [*]; done), by repeat (first | exact Drawn0.refl _ | apply Drawn0.step)⟩

/-! ### impl_OrderOf: function 34 -/
def impl_OrderOf.f (k : Nat) (a0_0 : Int) (l0_1 : List Int) (l1 : List Int) : Option (List Int × Int) := (impl_checkWords.f k a0_0 l0_1 (([l1] : List (List Int)))).bind fun t603 => (if t603 = 0 then ((impl_positions.f k a0_0 l0_1 l1).bind fun bt604 => (some (bt604.2, 0))) else (some (([] : List Int), t603)))

set_option maxHeartbeats 8000000 in
set_option maxRecDepth 100000 in
theorem impl_OrderOf.calls (k : Nat) (a0_0 : Int) (A0_1 : Option Addr) (c0_1 : Nat) (l0_1 : List Int) (P1_ : Nat → Prop) (A1 : Option Addr) (c1 : Nat) (l1 : List Int) (r1 : List Int) (r2 : Int) (w : World) (hr0_1 : Kd.C (Kd.int .i64) w A0_1 l0_1.length l0_1) (hc0_1 : l0_1.length ≤ c0_1) (hs1 : Kd.V (Kd.int .i64) 2 w w.heap.size (fun k_ => P1_ k_) (.slice A1 l1.length c1) l1) (hT : TabW w) (h : impl_OrderOf.f k a0_0 l0_1 l1 = some (r1, r2)) :
  Calls Tryd.prog 34 #[.agg #[.int .i64 a0_0, .slice A0_1 l0_1.length c0_1], .slice A1 l1.length c1] w fun e w' => ∃ v0_ : Value, e = .returned (.tuple #[v0_, .int .i64 r2]) ∧ Kd.R (Kd.int .i64) 2 w' w.heap.size (fun k_ => (w.heap.size ≤ k_)) v0_ r1 ∧ Below w.heap.size w w' := by
 have hu26 := Tryd.underlying26
 have HT := zA hT
 clear hT
 have HR0_1 := zA hr0_1
 have HC0_1 := zA hc0_1
 clear hr0_1 hc0_1
 have HO1 := zA (show Kd.V (Kd.int .i64) 2 w w.heap.size (fun k_ => (P1_ k_ ∨ w.heap.size ≤ k_)) (.slice A1 l1.length c1) l1 from Kd.V_mono hs1 (fun k_ hk => .inl hk))
 have HB := zA (Below.refl w.heap.size w)
 have H : ((impl_checkWords.f k a0_0 l0_1 (([l1] : List (List Int)))).bind fun t603 => (if t603 = 0 then ((impl_positions.f k a0_0 l0_1 l1).bind fun bt604 => (some (bt604.2, 0))) else (some (([] : List Int), t603)))) = some (r1, r2) := h
 clear h
 obtain ⟨y600, hy600⟩ : ∃ y_ : List (List Int), y_ = (([l1] : List (List Int))) := ⟨_, rfl⟩
 replace H : ((impl_checkWords.f k a0_0 l0_1 y600).bind fun t603 => (if t603 = 0 then ((impl_positions.f k a0_0 l0_1 l1).bind fun bt604 => (some (bt604.2, 0))) else (some (([] : List Int), t603)))) = some (r1, r2) := zy hy600 H
 have Ny600 := zA hy600
 clear hy600
 obtain ⟨t603, A3, H⟩ := zb H
 try dsimp only at H
 by_cases c4 : t603 = 0
 ·rw [if_pos c4] at H
  have c4b0 : (t603 == 0) = true := beq_iff_eq.mpr c4
  have c4b1 : (t603 != 0) = false := bne_eq_false_iff_eq.mpr c4
  clear c4
  obtain ⟨⟨t604, t607⟩, A5, H⟩ := zb H
  try dsimp only at H
  simp only [Option.some.injEq, Prod.mk.injEq] at H
  obtain ⟨rfl, rfl⟩ := H
  go_enter Tryd.func34, Tryd.ntmps34
  go_wp2_with (first | ((with_reducible refine gate_dst (N := 2) rfl ?_); refine box_event ?hg (N := 2) ?hd (cs := #[.int .i64 a0_0, .slice A0_1 l0_1.length c0_1]) (t := 26) ?hr ?_; (case hd => rfl); (case hg => rfl); (case hr => first | (go_simp; done) | (go_simp; rfl)); intro gb599 hg w6 hbox hb; replace HO1 := zA (Kd.V_below (Kd.V_elderB (zPV HO1.out) gb599 (Nat.le_of_eq hg.symm)) hb); have BK599 := zA (hbox); have GW599 := zA ((by rw [hg]; exact (below_size (zQ HB.out)) : w.heap.size ≤ gb599)); have GE599 := zA ((by rw [hg]; exact (below_size (zQ HB.out)) : w.heap.size ≤ gb599)); replace HB := zA (below_step (zQ HB.out) hb); clear hb hbox hg; have hcz7_0 : w6.cell? ⟨gb599, 0, none⟩ = some (.int .i64 a0_0) := (blk_cell BK599.out 0).trans rfl; have hcz7_1 : w6.cell? ⟨gb599, 1, none⟩ = some (.slice A0_1 l0_1.length c0_1) := (blk_cell BK599.out 1).trans rfl; have hfz7_0 := blk_frozen BK599.out 0; have hfz7_1 := blk_frozen BK599.out 1) | ((with_reducible refine gate_dst (N := 11) rfl ?_); refine Kd.N_lit (Kd.slice 2 (Kd.int .i64)) _ 24 ?hg (N' := 11) ?hd (xs := ([l1] : List (List Int))) (inner := [.slice A1 l1.length c1]) (ok := (fun k_ => (P1_ k_ ∨ w.heap.size ≤ k_) ∧ k_ ≠ gb599)) (okp := (fun k_ => (P1_ k_ ∨ w.heap.size ≤ k_) ∧ k_ ≠ gb599)) ?hr ?hp (fun _ hk => hk) ((show ∀ k_ : Nat, (_ : Nat) ≤ k_ → (fun k_ => (P1_ k_ ∨ w.heap.size ≤ k_) ∧ k_ ≠ gb599) k_ from fun k_ hk => ⟨(.inr (Nat.le_trans (below_size (zT HB.out GE599.out)) hk)), Kd.freshB (g := gb599) (o := .cells #[.int .i64 a0_0, .slice A0_1 l0_1.length c0_1] 26 (0, 0)) (zR BK599.out) k_ hk⟩) _ (Nat.le_refl _)) (Below.refl _ _) (Nat.le_refl _) (by simp) ?_; (case hd => rfl); (case hg => rfl); (case hr => first | (go_simp; done) | (go_simp; rfl)); (case hp => exact (Reps.one (show Kd.FK (Kd.slice 2 (Kd.int .i64)) _ _ l1 [.slice A1 l1.length c1] from (Kd.FK_slice_mk (Kd.V_reads' (Kd.V_mono (ok' := (fun k_ => (P1_ k_ ∨ w.heap.size ≤ k_) ∧ k_ ≠ gb599)) (HO1.out) (fun k_ hk => ⟨hk.1, hk.2⟩))).2.1 (Kd.V_F (Kd.V_mono (ok' := (fun k_ => (P1_ k_ ∨ w.heap.size ≤ k_) ∧ k_ ≠ gb599)) (HO1.out) (fun k_ hk => ⟨hk.1, hk.2⟩))))) (Reps.none _ _))); intro v601 w8 ho9 hb hg_ hnew_; clear hg_ hnew_; (first | rw [← Ny600.out] at ho9 | (simp only [Int.reduceToNat] at ho9; rw [← Ny600.out] at ho9)); replace HO1 := zA (Kd.V_elder' (zPV HO1.out) (Kd.N_base ho9) hb); have HO602 := zA (Kd.N_lower ho9 (below_size (zT HB.out GE599.out))); replace BK599 := zA (blk_below (g := gb599) (o := .cells #[.int .i64 a0_0, .slice A0_1 l0_1.length c0_1] 26 (0, 0)) (zR BK599.out) hb); replace HB := zA (below_step (zT HB.out GE599.out) hb); clear hb ho9; obtain ⟨Ao10, co10, eo10⟩ := Kd.N_slice HO602.out; subst eo10) | ((with_reducible refine gate_callee (f := 49) rfl ?_); refine zO (some 12) Tryd.func49 #[.agg #[.int .i64 a0_0, .slice A0_1 l0_1.length c0_1], .slice Ao10 y600.length co10] ?_; (with_reducible refine (impl_checkWords.calls k a0_0 _ _ l0_1 _ _ y600 t603 _ ?side1 ?side2 ?side3 ?side4 ?side5 A3.out).mono ?_); (case side1 => exact zS (Kd.C_below HR0_1.out HB.out)); (case side2 => exact HC0_1.out); (case side3 => exact zS (Kd.N_reads' HO602.out).2.2); (case side4 => exact (Kd.N_reads' HO602.out).2.1); (case side5 => exact TabW.below HT.out (zT HB.out GE599.out)); rintro e w11 ⟨rfl, hb⟩; refine ⟨_, rfl, ?_⟩; replace HO1 := zA (Kd.V_below (zPV HO1.out) hb); replace HO602 := zA (Kd.N_below (zPN HO602.out) hb); replace BK599 := zA (blk_below (g := gb599) (o := .cells #[.int .i64 a0_0, .slice A0_1 l0_1.length c0_1] 26 (0, 0)) (zR BK599.out) hb); replace HB := zA (below_step (zT HB.out GE599.out) hb); (try clear hb); have hcz12_0 : w11.cell? ⟨gb599, 0, none⟩ = some (.int .i64 a0_0) := (blk_cell BK599.out 0).trans rfl; have hcz12_1 : w11.cell? ⟨gb599, 1, none⟩ = some (.slice A0_1 l0_1.length c0_1) := (blk_cell BK599.out 1).trans rfl; have hfz12_0 := blk_frozen BK599.out 0; have hfz12_1 := blk_frozen BK599.out 1) | ((with_reducible refine gate_callee (f := 83) rfl ?_); refine zO (some 19) Tryd.func83 #[.agg #[.int .i64 a0_0, .slice A0_1 l0_1.length c0_1], .slice A1 l1.length c1] ?_; (with_reducible refine (impl_positions.calls k a0_0 _ _ l0_1 _ _ l1 t604 t607 _ ?side1 ?side2 ?side3 ?side4 ?side5 A5.out).mono ?_); (case side1 => exact zS (Kd.C_below HR0_1.out HB.out)); (case side2 => exact HC0_1.out); (case side3 => exact zS (Kd.V_reads' HO1.out).2.2); (case side4 => exact (Kd.V_reads' HO1.out).2.1); (case side5 => exact TabW.below HT.out (zT HB.out GE599.out)); rintro e w13 ⟨v605, v608, rfl, ho0, ho1, hb⟩; refine ⟨_, rfl, ?_⟩; replace HO1 := zA (Kd.V_mono (Kd.V_told (Kd.V_told (Kd.V_old (zPV HO1.out) hb) (Kd.R_base ho0)) (Kd.R_base ho1)) (fun _ h_ => h_.1)); replace HO602 := zA (Kd.N_mono (Kd.N_told (Kd.N_told (Kd.N_old (zPN HO602.out) hb) (Kd.R_base ho0)) (Kd.R_base ho1)) (fun _ h_ => h_.1)); have HO606 := zA (Kd.R_lower (Kd.R_newM (M := fun k_ => (w.heap.size ≤ k_)) ho0 (below_size (zT HB.out GE599.out)) (fun k_ h_ => h_)) (below_size (zT HB.out GE599.out))); have HO609 := zA (Kd.R_lower (Kd.R_newM (M := fun k_ => (w.heap.size ≤ k_)) ho1 (below_size (zT HB.out GE599.out)) (fun k_ h_ => h_)) (below_size (zT HB.out GE599.out))); replace BK599 := zA (blk_below (g := gb599) (o := .cells #[.int .i64 a0_0, .slice A0_1 l0_1.length c0_1] 26 (0, 0)) (zR BK599.out) hb); replace HB := zA (below_step (zT HB.out GE599.out) hb); (try clear hb); (try clear ho0); (try clear ho1)))
  go_ret2
  exact ⟨_, zr, by (with_reducible repeat (first | apply zF | apply zG | apply zH)); exact Kd.R_mono HO609.out (fun _ hk => hk.1), zT HB.out GE599.out⟩
 rw [if_neg c4] at H
 have c4b0 : (t603 == 0) = false := beq_eq_false_iff_ne.mpr c4
 have c4b1 : (t603 != 0) = true := bne_iff_ne.mpr c4
 simp only [Option.some.injEq, Prod.mk.injEq] at H
 obtain ⟨rfl, rfl⟩ := H
 go_enter Tryd.func34, Tryd.ntmps34
 go_wp2_with (first | ((with_reducible refine gate_dst (N := 2) rfl ?_); refine box_event ?hg (N := 2) ?hd (cs := #[.int .i64 a0_0, .slice A0_1 l0_1.length c0_1]) (t := 26) ?hr ?_; (case hd => rfl); (case hg => rfl); (case hr => first | (go_simp; done) | (go_simp; rfl)); intro gb599 hg w14 hbox hb; replace HO1 := zA (Kd.V_below (Kd.V_elderB (zPV HO1.out) gb599 (Nat.le_of_eq hg.symm)) hb); have BK599 := zA (hbox); have GW599 := zA ((by rw [hg]; exact (below_size (zQ HB.out)) : w.heap.size ≤ gb599)); have GE599 := zA ((by rw [hg]; exact (below_size (zQ HB.out)) : w.heap.size ≤ gb599)); replace HB := zA (below_step (zQ HB.out) hb); clear hb hbox hg; have hcz15_0 : w14.cell? ⟨gb599, 0, none⟩ = some (.int .i64 a0_0) := (blk_cell BK599.out 0).trans rfl; have hcz15_1 : w14.cell? ⟨gb599, 1, none⟩ = some (.slice A0_1 l0_1.length c0_1) := (blk_cell BK599.out 1).trans rfl; have hfz15_0 := blk_frozen BK599.out 0; have hfz15_1 := blk_frozen BK599.out 1) | ((with_reducible refine gate_dst (N := 11) rfl ?_); refine Kd.N_lit (Kd.slice 2 (Kd.int .i64)) _ 24 ?hg (N' := 11) ?hd (xs := ([l1] : List (List Int))) (inner := [.slice A1 l1.length c1]) (ok := (fun k_ => (P1_ k_ ∨ w.heap.size ≤ k_) ∧ k_ ≠ gb599)) (okp := (fun k_ => (P1_ k_ ∨ w.heap.size ≤ k_) ∧ k_ ≠ gb599)) ?hr ?hp (fun _ hk => hk) ((show ∀ k_ : Nat, (_ : Nat) ≤ k_ → (fun k_ => (P1_ k_ ∨ w.heap.size ≤ k_) ∧ k_ ≠ gb599) k_ from fun k_ hk => ⟨(.inr (Nat.le_trans (below_size (zT HB.out GE599.out)) hk)), Kd.freshB (g := gb599) (o := .cells #[.int .i64 a0_0, .slice A0_1 l0_1.length c0_1] 26 (0, 0)) (zR BK599.out) k_ hk⟩) _ (Nat.le_refl _)) (Below.refl _ _) (Nat.le_refl _) (by simp) ?_; (case hd => rfl); (case hg => rfl); (case hr => first | (go_simp; done) | (go_simp; rfl)); (case hp => exact (Reps.one (show Kd.FK (Kd.slice 2 (Kd.int .i64)) _ _ l1 [.slice A1 l1.length c1] from (Kd.FK_slice_mk (Kd.V_reads' (Kd.V_mono (ok' := (fun k_ => (P1_ k_ ∨ w.heap.size ≤ k_) ∧ k_ ≠ gb599)) (HO1.out) (fun k_ hk => ⟨hk.1, hk.2⟩))).2.1 (Kd.V_F (Kd.V_mono (ok' := (fun k_ => (P1_ k_ ∨ w.heap.size ≤ k_) ∧ k_ ≠ gb599)) (HO1.out) (fun k_ hk => ⟨hk.1, hk.2⟩))))) (Reps.none _ _))); intro v601 w16 ho17 hb hg_ hnew_; clear hg_ hnew_; (first | rw [← Ny600.out] at ho17 | (simp only [Int.reduceToNat] at ho17; rw [← Ny600.out] at ho17)); replace HO1 := zA (Kd.V_elder' (zPV HO1.out) (Kd.N_base ho17) hb); have HO602 := zA (Kd.N_lower ho17 (below_size (zT HB.out GE599.out))); replace BK599 := zA (blk_below (g := gb599) (o := .cells #[.int .i64 a0_0, .slice A0_1 l0_1.length c0_1] 26 (0, 0)) (zR BK599.out) hb); replace HB := zA (below_step (zT HB.out GE599.out) hb); clear hb ho17; obtain ⟨Ao18, co18, eo18⟩ := Kd.N_slice HO602.out; subst eo18) | ((with_reducible refine gate_callee (f := 49) rfl ?_); refine zO (some 12) Tryd.func49 #[.agg #[.int .i64 a0_0, .slice A0_1 l0_1.length c0_1], .slice Ao18 y600.length co18] ?_; (with_reducible refine (impl_checkWords.calls k a0_0 _ _ l0_1 _ _ y600 t603 _ ?side1 ?side2 ?side3 ?side4 ?side5 A3.out).mono ?_); (case side1 => exact zS (Kd.C_below HR0_1.out HB.out)); (case side2 => exact HC0_1.out); (case side3 => exact zS (Kd.N_reads' HO602.out).2.2); (case side4 => exact (Kd.N_reads' HO602.out).2.1); (case side5 => exact TabW.below HT.out (zT HB.out GE599.out)); rintro e w19 ⟨rfl, hb⟩; refine ⟨_, rfl, ?_⟩; replace HO1 := zA (Kd.V_below (zPV HO1.out) hb); replace HO602 := zA (Kd.N_below (zPN HO602.out) hb); replace BK599 := zA (blk_below (g := gb599) (o := .cells #[.int .i64 a0_0, .slice A0_1 l0_1.length c0_1] 26 (0, 0)) (zR BK599.out) hb); replace HB := zA (below_step (zT HB.out GE599.out) hb); (try clear hb)))
 go_ret2
 exact ⟨_, zr, zn, zT HB.out GE599.out⟩

/-! ### impl_checkPosition: function 89 -/
def impl_checkPosition.f (k : Nat) (a0_0 : Int) (l0_1 : List Int) (l1 : List Int) (a2 : Int) : Option (List Int × Int) := (impl_checkWords.f k a0_0 l0_1 (([l1] : List (List Int)))).bind fun t614 => (if t614 = 0 then ((impl_length_int64.f l1).bind fun t615 => ((impl_inRange.f a2 0 (wrap64 (t615 - 1))).bind fun t616 => (if t616 = true then ((impl_positions.f k a0_0 l0_1 l1).bind fun bt617 => (some (bt617.2, 0))) else (some (([] : List Int), 2))))) else (some (([] : List Int), t614)))

set_option maxHeartbeats 8000000 in
set_option maxRecDepth 100000 in
theorem impl_checkPosition.calls (k : Nat) (a0_0 : Int) (A0_1 : Option Addr) (c0_1 : Nat) (l0_1 : List Int) (P1_ : Nat → Prop) (A1 : Option Addr) (c1 : Nat) (l1 : List Int) (a2 : Int) (r1 : List Int) (r2 : Int) (w : World) (hr0_1 : Kd.C (Kd.int .i64) w A0_1 l0_1.length l0_1) (hc0_1 : l0_1.length ≤ c0_1) (hs1 : Kd.V (Kd.int .i64) 2 w w.heap.size (fun k_ => P1_ k_) (.slice A1 l1.length c1) l1) (hT : TabW w) (h : impl_checkPosition.f k a0_0 l0_1 l1 a2 = some (r1, r2)) :
  Calls Tryd.prog 89 #[.agg #[.int .i64 a0_0, .slice A0_1 l0_1.length c0_1], .slice A1 l1.length c1, .int .i64 a2] w fun e w' => ∃ v0_ : Value, e = .returned (.tuple #[v0_, .int .i64 r2]) ∧ Kd.R (Kd.int .i64) 2 w' w.heap.size (fun k_ => (w.heap.size ≤ k_)) v0_ r1 ∧ Below w.heap.size w w' := by
 have hu26 := Tryd.underlying26
 have HT := zA hT
 clear hT
 have HR0_1 := zA hr0_1
 have HC0_1 := zA hc0_1
 clear hr0_1 hc0_1
 have HO1 := zA (show Kd.V (Kd.int .i64) 2 w w.heap.size (fun k_ => (P1_ k_ ∨ w.heap.size ≤ k_)) (.slice A1 l1.length c1) l1 from Kd.V_mono hs1 (fun k_ hk => .inl hk))
 have HB := zA (Below.refl w.heap.size w)
 have H : ((impl_checkWords.f k a0_0 l0_1 (([l1] : List (List Int)))).bind fun t614 => (if t614 = 0 then ((impl_length_int64.f l1).bind fun t615 => ((impl_inRange.f a2 0 (wrap64 (t615 - 1))).bind fun t616 => (if t616 = true then ((impl_positions.f k a0_0 l0_1 l1).bind fun bt617 => (some (bt617.2, 0))) else (some (([] : List Int), 2))))) else (some (([] : List Int), t614)))) = some (r1, r2) := h
 clear h
 obtain ⟨y611, hy611⟩ : ∃ y_ : List (List Int), y_ = (([l1] : List (List Int))) := ⟨_, rfl⟩
 replace H : ((impl_checkWords.f k a0_0 l0_1 y611).bind fun t614 => (if t614 = 0 then ((impl_length_int64.f l1).bind fun t615 => ((impl_inRange.f a2 0 (wrap64 (t615 - 1))).bind fun t616 => (if t616 = true then ((impl_positions.f k a0_0 l0_1 l1).bind fun bt617 => (some (bt617.2, 0))) else (some (([] : List Int), 2))))) else (some (([] : List Int), t614)))) = some (r1, r2) := zy hy611 H
 have Ny611 := zA hy611
 clear hy611
 obtain ⟨t614, A4, H⟩ := zb H
 try dsimp only at H
 by_cases c5 : t614 = 0
 ·rw [if_pos c5] at H
  have c5b0 : (t614 == 0) = true := beq_iff_eq.mpr c5
  have c5b1 : (t614 != 0) = false := bne_eq_false_iff_eq.mpr c5
  clear c5
  obtain ⟨t615, A6, H⟩ := zb H
  try dsimp only at H
  obtain ⟨t616, A7, H⟩ := zb H
  try dsimp only at H
  by_cases c8 : t616 = true
  ·subst c8
   have H1 : ((impl_positions.f k a0_0 l0_1 l1).bind fun bt617 => (some (bt617.2, 0))) = some (r1, r2) := by rw [if_pos rfl] at H; exact H
   clear H
   have H := H1
   clear H1
   obtain ⟨⟨t617, t620⟩, A9, H⟩ := zb H
   try dsimp only at H
   simp only [Option.some.injEq, Prod.mk.injEq] at H
   obtain ⟨rfl, rfl⟩ := H
   go_enter Tryd.func89, Tryd.ntmps89
   go_wp2_with (first | ((with_reducible refine gate_dst (N := 3) rfl ?_); refine box_event ?hg (N := 3) ?hd (cs := #[.int .i64 a0_0, .slice A0_1 l0_1.length c0_1]) (t := 26) ?hr ?_; (case hd => rfl); (case hg => rfl); (case hr => first | (go_simp; done) | (go_simp; rfl)); intro gb610 hg w10 hbox hb; replace HO1 := zA (Kd.V_below (Kd.V_elderB (zPV HO1.out) gb610 (Nat.le_of_eq hg.symm)) hb); have BK610 := zA (hbox); have GW610 := zA ((by rw [hg]; exact (below_size (zQ HB.out)) : w.heap.size ≤ gb610)); have GE610 := zA ((by rw [hg]; exact (below_size (zQ HB.out)) : w.heap.size ≤ gb610)); replace HB := zA (below_step (zQ HB.out) hb); clear hb hbox hg; have hcz11_0 : w10.cell? ⟨gb610, 0, none⟩ = some (.int .i64 a0_0) := (blk_cell BK610.out 0).trans rfl; have hcz11_1 : w10.cell? ⟨gb610, 1, none⟩ = some (.slice A0_1 l0_1.length c0_1) := (blk_cell BK610.out 1).trans rfl; have hfz11_0 := blk_frozen BK610.out 0; have hfz11_1 := blk_frozen BK610.out 1) | ((with_reducible refine gate_dst (N := 13) rfl ?_); refine Kd.N_lit (Kd.slice 2 (Kd.int .i64)) _ 24 ?hg (N' := 13) ?hd (xs := ([l1] : List (List Int))) (inner := [.slice A1 l1.length c1]) (ok := (fun k_ => (P1_ k_ ∨ w.heap.size ≤ k_) ∧ k_ ≠ gb610)) (okp := (fun k_ => (P1_ k_ ∨ w.heap.size ≤ k_) ∧ k_ ≠ gb610)) ?hr ?hp (fun _ hk => hk) ((show ∀ k_ : Nat, (_ : Nat) ≤ k_ → (fun k_ => (P1_ k_ ∨ w.heap.size ≤ k_) ∧ k_ ≠ gb610) k_ from fun k_ hk => ⟨(.inr (Nat.le_trans (below_size (zT HB.out GE610.out)) hk)), Kd.freshB (g := gb610) (o := .cells #[.int .i64 a0_0, .slice A0_1 l0_1.length c0_1] 26 (0, 0)) (zR BK610.out) k_ hk⟩) _ (Nat.le_refl _)) (Below.refl _ _) (Nat.le_refl _) (by simp) ?_; (case hd => rfl); (case hg => rfl); (case hr => first | (go_simp; done) | (go_simp; rfl)); (case hp => exact (Reps.one (show Kd.FK (Kd.slice 2 (Kd.int .i64)) _ _ l1 [.slice A1 l1.length c1] from (Kd.FK_slice_mk (Kd.V_reads' (Kd.V_mono (ok' := (fun k_ => (P1_ k_ ∨ w.heap.size ≤ k_) ∧ k_ ≠ gb610)) (HO1.out) (fun k_ hk => ⟨hk.1, hk.2⟩))).2.1 (Kd.V_F (Kd.V_mono (ok' := (fun k_ => (P1_ k_ ∨ w.heap.size ≤ k_) ∧ k_ ≠ gb610)) (HO1.out) (fun k_ hk => ⟨hk.1, hk.2⟩))))) (Reps.none _ _))); intro v612 w12 ho13 hb hg_ hnew_; clear hg_ hnew_; (first | rw [← Ny611.out] at ho13 | (simp only [Int.reduceToNat] at ho13; rw [← Ny611.out] at ho13)); replace HO1 := zA (Kd.V_elder' (zPV HO1.out) (Kd.N_base ho13) hb); have HO613 := zA (Kd.N_lower ho13 (below_size (zT HB.out GE610.out))); replace BK610 := zA (blk_below (g := gb610) (o := .cells #[.int .i64 a0_0, .slice A0_1 l0_1.length c0_1] 26 (0, 0)) (zR BK610.out) hb); replace HB := zA (below_step (zT HB.out GE610.out) hb); clear hb ho13; obtain ⟨Ao14, co14, eo14⟩ := Kd.N_slice HO613.out; subst eo14) | ((with_reducible refine gate_callee (f := 49) rfl ?_); refine zO (some 14) Tryd.func49 #[.agg #[.int .i64 a0_0, .slice A0_1 l0_1.length c0_1], .slice Ao14 y611.length co14] ?_; (with_reducible refine (impl_checkWords.calls k a0_0 _ _ l0_1 _ _ y611 t614 _ ?side1 ?side2 ?side3 ?side4 ?side5 A4.out).mono ?_); (case side1 => exact zS (Kd.C_below HR0_1.out HB.out)); (case side2 => exact HC0_1.out); (case side3 => exact zS (Kd.N_reads' HO613.out).2.2); (case side4 => exact (Kd.N_reads' HO613.out).2.1); (case side5 => exact TabW.below HT.out (zT HB.out GE610.out)); rintro e w15 ⟨rfl, hb⟩; refine ⟨_, rfl, ?_⟩; replace HO1 := zA (Kd.V_below (zPV HO1.out) hb); replace HO613 := zA (Kd.N_below (zPN HO613.out) hb); replace BK610 := zA (blk_below (g := gb610) (o := .cells #[.int .i64 a0_0, .slice A0_1 l0_1.length c0_1] 26 (0, 0)) (zR BK610.out) hb); replace HB := zA (below_step (zT HB.out GE610.out) hb); (try clear hb)) | ((with_reducible refine gate_callee (f := 82) rfl ?_); refine zO (some 20) Tryd.func82 #[.slice A1 l1.length c1] ?_; (with_reducible refine (impl_length_int64.calls _ _ l1 t615 _ ?side1 ?side2 A6.out).mono ?_); (case side1 => exact zS (Kd.V_reads' HO1.out).2.2); (case side2 => exact (Kd.V_reads' HO1.out).2.1); rintro e w' ⟨rfl, ⟨nd, rfl⟩⟩; refine ⟨_, rfl, ?_⟩) | ((with_reducible refine gate_callee (f := 111) rfl ?_); refine zO (some 22) Tryd.func111 #[.int .i64 a2, .int .i64 0, .int .i64 (wrap64 (t615 - 1))] ?_; (with_reducible refine (impl_inRange.calls a2 0 (wrap64 (t615 - 1)) true _ A7.out).mono ?_); rintro e w' ⟨rfl, ⟨nd, rfl⟩⟩; refine ⟨_, rfl, ?_⟩; have hcz16_0 : w15.cell? ⟨gb610, 0, none⟩ = some (.int .i64 a0_0) := (blk_cell BK610.out 0).trans rfl; have hcz16_1 : w15.cell? ⟨gb610, 1, none⟩ = some (.slice A0_1 l0_1.length c0_1) := (blk_cell BK610.out 1).trans rfl; have hfz16_0 := blk_frozen BK610.out 0; have hfz16_1 := blk_frozen BK610.out 1) | ((with_reducible refine gate_callee (f := 83) rfl ?_); refine zO (some 27) Tryd.func83 #[.agg #[.int .i64 a0_0, .slice A0_1 l0_1.length c0_1], .slice A1 l1.length c1] ?_; (with_reducible refine (impl_positions.calls k a0_0 _ _ l0_1 _ _ l1 t617 t620 _ ?side1 ?side2 ?side3 ?side4 ?side5 A9.out).mono ?_); (case side1 => exact zS (Kd.C_below HR0_1.out (zT HB.out GE610.out))); (case side2 => exact HC0_1.out); (case side3 => exact zS (Kd.V_reads' HO1.out).2.2); (case side4 => exact (Kd.V_reads' HO1.out).2.1); (case side5 => exact TabW.below HT.out (zT HB.out GE610.out)); rintro e w17 ⟨v618, v621, rfl, ho0, ho1, hb⟩; refine ⟨_, rfl, ?_⟩; replace HO1 := zA (Kd.V_mono (Kd.V_told (Kd.V_told (Kd.V_old (zPV HO1.out) hb) (Kd.R_base ho0)) (Kd.R_base ho1)) (fun _ h_ => h_.1)); replace HO613 := zA (Kd.N_mono (Kd.N_told (Kd.N_told (Kd.N_old (zPN HO613.out) hb) (Kd.R_base ho0)) (Kd.R_base ho1)) (fun _ h_ => h_.1)); have HO619 := zA (Kd.R_lower (Kd.R_newM (M := fun k_ => (w.heap.size ≤ k_)) ho0 (below_size (zT HB.out GE610.out)) (fun k_ h_ => h_)) (below_size (zT HB.out GE610.out))); have HO622 := zA (Kd.R_lower (Kd.R_newM (M := fun k_ => (w.heap.size ≤ k_)) ho1 (below_size (zT HB.out GE610.out)) (fun k_ h_ => h_)) (below_size (zT HB.out GE610.out))); replace BK610 := zA (blk_below (g := gb610) (o := .cells #[.int .i64 a0_0, .slice A0_1 l0_1.length c0_1] 26 (0, 0)) (zR BK610.out) hb); replace HB := zA (below_step (zT HB.out GE610.out) hb); (try clear hb); (try clear ho0); (try clear ho1)))
   go_ret2
   exact ⟨_, zr, by (with_reducible repeat (first | apply zF | apply zG | apply zH)); exact Kd.R_mono HO622.out (fun _ hk => hk.1), zT HB.out GE610.out⟩
  replace c8 := Bool.eq_false_iff.mpr c8
  subst c8
  have H1 : (some (([] : List Int), 2)) = some (r1, r2) := by rw [if_neg (show ¬ (false = true) by decide)] at H; exact H
  clear H
  have H := H1
  clear H1
  simp only [Option.some.injEq, Prod.mk.injEq] at H
  obtain ⟨rfl, rfl⟩ := H
  go_enter Tryd.func89, Tryd.ntmps89
  go_wp2_with (first | ((with_reducible refine gate_dst (N := 3) rfl ?_); refine box_event ?hg (N := 3) ?hd (cs := #[.int .i64 a0_0, .slice A0_1 l0_1.length c0_1]) (t := 26) ?hr ?_; (case hd => rfl); (case hg => rfl); (case hr => first | (go_simp; done) | (go_simp; rfl)); intro gb610 hg w18 hbox hb; replace HO1 := zA (Kd.V_below (Kd.V_elderB (zPV HO1.out) gb610 (Nat.le_of_eq hg.symm)) hb); have BK610 := zA (hbox); have GW610 := zA ((by rw [hg]; exact (below_size (zQ HB.out)) : w.heap.size ≤ gb610)); have GE610 := zA ((by rw [hg]; exact (below_size (zQ HB.out)) : w.heap.size ≤ gb610)); replace HB := zA (below_step (zQ HB.out) hb); clear hb hbox hg; have hcz19_0 : w18.cell? ⟨gb610, 0, none⟩ = some (.int .i64 a0_0) := (blk_cell BK610.out 0).trans rfl; have hcz19_1 : w18.cell? ⟨gb610, 1, none⟩ = some (.slice A0_1 l0_1.length c0_1) := (blk_cell BK610.out 1).trans rfl; have hfz19_0 := blk_frozen BK610.out 0; have hfz19_1 := blk_frozen BK610.out 1) | ((with_reducible refine gate_dst (N := 13) rfl ?_); refine Kd.N_lit (Kd.slice 2 (Kd.int .i64)) _ 24 ?hg (N' := 13) ?hd (xs := ([l1] : List (List Int))) (inner := [.slice A1 l1.length c1]) (ok := (fun k_ => (P1_ k_ ∨ w.heap.size ≤ k_) ∧ k_ ≠ gb610)) (okp := (fun k_ => (P1_ k_ ∨ w.heap.size ≤ k_) ∧ k_ ≠ gb610)) ?hr ?hp (fun _ hk => hk) ((show ∀ k_ : Nat, (_ : Nat) ≤ k_ → (fun k_ => (P1_ k_ ∨ w.heap.size ≤ k_) ∧ k_ ≠ gb610) k_ from fun k_ hk => ⟨(.inr (Nat.le_trans (below_size (zT HB.out GE610.out)) hk)), Kd.freshB (g := gb610) (o := .cells #[.int .i64 a0_0, .slice A0_1 l0_1.length c0_1] 26 (0, 0)) (zR BK610.out) k_ hk⟩) _ (Nat.le_refl _)) (Below.refl _ _) (Nat.le_refl _) (by simp) ?_; (case hd => rfl); (case hg => rfl); (case hr => first | (go_simp; done) | (go_simp; rfl)); (case hp => exact (Reps.one (show Kd.FK (Kd.slice 2 (Kd.int .i64)) _ _ l1 [.slice A1 l1.length c1] from (Kd.FK_slice_mk (Kd.V_reads' (Kd.V_mono (ok' := (fun k_ => (P1_ k_ ∨ w.heap.size ≤ k_) ∧ k_ ≠ gb610)) (HO1.out) (fun k_ hk => ⟨hk.1, hk.2⟩))).2.1 (Kd.V_F (Kd.V_mono (ok' := (fun k_ => (P1_ k_ ∨ w.heap.size ≤ k_) ∧ k_ ≠ gb610)) (HO1.out) (fun k_ hk => ⟨hk.1, hk.2⟩))))) (Reps.none _ _))); intro v612 w20 ho21 hb hg_ hnew_; clear hg_ hnew_; (first | rw [← Ny611.out] at ho21 | (simp only [Int.reduceToNat] at ho21; rw [← Ny611.out] at ho21)); replace HO1 := zA (Kd.V_elder' (zPV HO1.out) (Kd.N_base ho21) hb); have HO613 := zA (Kd.N_lower ho21 (below_size (zT HB.out GE610.out))); replace BK610 := zA (blk_below (g := gb610) (o := .cells #[.int .i64 a0_0, .slice A0_1 l0_1.length c0_1] 26 (0, 0)) (zR BK610.out) hb); replace HB := zA (below_step (zT HB.out GE610.out) hb); clear hb ho21; obtain ⟨Ao22, co22, eo22⟩ := Kd.N_slice HO613.out; subst eo22) | ((with_reducible refine gate_callee (f := 49) rfl ?_); refine zO (some 14) Tryd.func49 #[.agg #[.int .i64 a0_0, .slice A0_1 l0_1.length c0_1], .slice Ao22 y611.length co22] ?_; (with_reducible refine (impl_checkWords.calls k a0_0 _ _ l0_1 _ _ y611 t614 _ ?side1 ?side2 ?side3 ?side4 ?side5 A4.out).mono ?_); (case side1 => exact zS (Kd.C_below HR0_1.out HB.out)); (case side2 => exact HC0_1.out); (case side3 => exact zS (Kd.N_reads' HO613.out).2.2); (case side4 => exact (Kd.N_reads' HO613.out).2.1); (case side5 => exact TabW.below HT.out (zT HB.out GE610.out)); rintro e w23 ⟨rfl, hb⟩; refine ⟨_, rfl, ?_⟩; replace HO1 := zA (Kd.V_below (zPV HO1.out) hb); replace HO613 := zA (Kd.N_below (zPN HO613.out) hb); replace BK610 := zA (blk_below (g := gb610) (o := .cells #[.int .i64 a0_0, .slice A0_1 l0_1.length c0_1] 26 (0, 0)) (zR BK610.out) hb); replace HB := zA (below_step (zT HB.out GE610.out) hb); (try clear hb)) | ((with_reducible refine gate_callee (f := 82) rfl ?_); refine zO (some 20) Tryd.func82 #[.slice A1 l1.length c1] ?_; (with_reducible refine (impl_length_int64.calls _ _ l1 t615 _ ?side1 ?side2 A6.out).mono ?_); (case side1 => exact zS (Kd.V_reads' HO1.out).2.2); (case side2 => exact (Kd.V_reads' HO1.out).2.1); rintro e w' ⟨rfl, ⟨nd, rfl⟩⟩; refine ⟨_, rfl, ?_⟩) | ((with_reducible refine gate_callee (f := 111) rfl ?_); refine zO (some 22) Tryd.func111 #[.int .i64 a2, .int .i64 0, .int .i64 (wrap64 (t615 - 1))] ?_; (with_reducible refine (impl_inRange.calls a2 0 (wrap64 (t615 - 1)) false _ A7.out).mono ?_); rintro e w' ⟨rfl, ⟨nd, rfl⟩⟩; refine ⟨_, rfl, ?_⟩))
  go_ret2
  exact ⟨_, zr, zn, zT HB.out GE610.out⟩
 rw [if_neg c5] at H
 have c5b0 : (t614 == 0) = false := beq_eq_false_iff_ne.mpr c5
 have c5b1 : (t614 != 0) = true := bne_iff_ne.mpr c5
 simp only [Option.some.injEq, Prod.mk.injEq] at H
 obtain ⟨rfl, rfl⟩ := H
 go_enter Tryd.func89, Tryd.ntmps89
 go_wp2_with (first | ((with_reducible refine gate_dst (N := 3) rfl ?_); refine box_event ?hg (N := 3) ?hd (cs := #[.int .i64 a0_0, .slice A0_1 l0_1.length c0_1]) (t := 26) ?hr ?_; (case hd => rfl); (case hg => rfl); (case hr => first | (go_simp; done) | (go_simp; rfl)); intro gb610 hg w24 hbox hb; replace HO1 := zA (Kd.V_below (Kd.V_elderB (zPV HO1.out) gb610 (Nat.le_of_eq hg.symm)) hb); have BK610 := zA (hbox); have GW610 := zA ((by rw [hg]; exact (below_size (zQ HB.out)) : w.heap.size ≤ gb610)); have GE610 := zA ((by rw [hg]; exact (below_size (zQ HB.out)) : w.heap.size ≤ gb610)); replace HB := zA (below_step (zQ HB.out) hb); clear hb hbox hg; have hcz25_0 : w24.cell? ⟨gb610, 0, none⟩ = some (.int .i64 a0_0) := (blk_cell BK610.out 0).trans rfl; have hcz25_1 : w24.cell? ⟨gb610, 1, none⟩ = some (.slice A0_1 l0_1.length c0_1) := (blk_cell BK610.out 1).trans rfl; have hfz25_0 := blk_frozen BK610.out 0; have hfz25_1 := blk_frozen BK610.out 1) | ((with_reducible refine gate_dst (N := 13) rfl ?_); refine Kd.N_lit (Kd.slice 2 (Kd.int .i64)) _ 24 ?hg (N' := 13) ?hd (xs := ([l1] : List (List Int))) (inner := [.slice A1 l1.length c1]) (ok := (fun k_ => (P1_ k_ ∨ w.heap.size ≤ k_) ∧ k_ ≠ gb610)) (okp := (fun k_ => (P1_ k_ ∨ w.heap.size ≤ k_) ∧ k_ ≠ gb610)) ?hr ?hp (fun _ hk => hk) ((show ∀ k_ : Nat, (_ : Nat) ≤ k_ → (fun k_ => (P1_ k_ ∨ w.heap.size ≤ k_) ∧ k_ ≠ gb610) k_ from fun k_ hk => ⟨(.inr (Nat.le_trans (below_size (zT HB.out GE610.out)) hk)), Kd.freshB (g := gb610) (o := .cells #[.int .i64 a0_0, .slice A0_1 l0_1.length c0_1] 26 (0, 0)) (zR BK610.out) k_ hk⟩) _ (Nat.le_refl _)) (Below.refl _ _) (Nat.le_refl _) (by simp) ?_; (case hd => rfl); (case hg => rfl); (case hr => first | (go_simp; done) | (go_simp; rfl)); (case hp => exact (Reps.one (show Kd.FK (Kd.slice 2 (Kd.int .i64)) _ _ l1 [.slice A1 l1.length c1] from (Kd.FK_slice_mk (Kd.V_reads' (Kd.V_mono (ok' := (fun k_ => (P1_ k_ ∨ w.heap.size ≤ k_) ∧ k_ ≠ gb610)) (HO1.out) (fun k_ hk => ⟨hk.1, hk.2⟩))).2.1 (Kd.V_F (Kd.V_mono (ok' := (fun k_ => (P1_ k_ ∨ w.heap.size ≤ k_) ∧ k_ ≠ gb610)) (HO1.out) (fun k_ hk => ⟨hk.1, hk.2⟩))))) (Reps.none _ _))); intro v612 w26 ho27 hb hg_ hnew_; clear hg_ hnew_; (first | rw [← Ny611.out] at ho27 | (simp only [Int.reduceToNat] at ho27; rw [← Ny611.out] at ho27)); replace HO1 := zA (Kd.V_elder' (zPV HO1.out) (Kd.N_base ho27) hb); have HO613 := zA (Kd.N_lower ho27 (below_size (zT HB.out GE610.out))); replace BK610 := zA (blk_below (g := gb610) (o := .cells #[.int .i64 a0_0, .slice A0_1 l0_1.length c0_1] 26 (0, 0)) (zR BK610.out) hb); replace HB := zA (below_step (zT HB.out GE610.out) hb); clear hb ho27; obtain ⟨Ao28, co28, eo28⟩ := Kd.N_slice HO613.out; subst eo28) | ((with_reducible refine gate_callee (f := 49) rfl ?_); refine zO (some 14) Tryd.func49 #[.agg #[.int .i64 a0_0, .slice A0_1 l0_1.length c0_1], .slice Ao28 y611.length co28] ?_; (with_reducible refine (impl_checkWords.calls k a0_0 _ _ l0_1 _ _ y611 t614 _ ?side1 ?side2 ?side3 ?side4 ?side5 A4.out).mono ?_); (case side1 => exact zS (Kd.C_below HR0_1.out HB.out)); (case side2 => exact HC0_1.out); (case side3 => exact zS (Kd.N_reads' HO613.out).2.2); (case side4 => exact (Kd.N_reads' HO613.out).2.1); (case side5 => exact TabW.below HT.out (zT HB.out GE610.out)); rintro e w29 ⟨rfl, hb⟩; refine ⟨_, rfl, ?_⟩; replace HO1 := zA (Kd.V_below (zPV HO1.out) hb); replace HO613 := zA (Kd.N_below (zPN HO613.out) hb); replace BK610 := zA (blk_below (g := gb610) (o := .cells #[.int .i64 a0_0, .slice A0_1 l0_1.length c0_1] 26 (0, 0)) (zR BK610.out) hb); replace HB := zA (below_step (zT HB.out GE610.out) hb); (try clear hb)))
 go_ret2
 exact ⟨_, zr, zn, zT HB.out GE610.out⟩

/-! ### impl_PastOf: function 35 -/
def impl_PastOf.f (k : Nat) (a0_0 : Int) (l0_1 : List Int) (l1 : List Int) (a2 : Int) : Option (Int × Int) := (impl_checkPosition.f k a0_0 l0_1 l1 a2).bind fun bt624 => (if bt624.2 = 0 then ((impl_converse.f k bt624.1).bind fun t628 => (if 0 ≤ a2 then (if a2 < (t628.length : Int) then (some (rd t628 a2, 0)) else (none)) else (none))) else (some (0, bt624.2)))

set_option maxHeartbeats 8000000 in
set_option maxRecDepth 100000 in
theorem impl_PastOf.calls (k : Nat) (a0_0 : Int) (A0_1 : Option Addr) (c0_1 : Nat) (l0_1 : List Int) (A1 : Option Addr) (c1 : Nat) (l1 : List Int) (a2 : Int) (r1 : Int) (r2 : Int) (w : World) (hr0_1 : Kd.C (Kd.int .i64) w A0_1 l0_1.length l0_1) (hc0_1 : l0_1.length ≤ c0_1) (hr1 : Kd.C (Kd.int .i64) w A1 l1.length l1) (hc1 : l1.length ≤ c1) (hT : TabW w) (h : impl_PastOf.f k a0_0 l0_1 l1 a2 = some (r1, r2)) :
  Calls Tryd.prog 35 #[.agg #[.int .i64 a0_0, .slice A0_1 l0_1.length c0_1], .slice A1 l1.length c1, .int .i64 a2] w fun e w' => e = .returned (.tuple #[.int .i64 r1, .int .i64 r2]) ∧ Below w.heap.size w w' := by
 have hu26 := Tryd.underlying26
 have HT := zA hT
 clear hT
 have HR0_1 := zA hr0_1
 have HC0_1 := zA hc0_1
 clear hr0_1 hc0_1
 have HR1 := zA hr1
 have HC1 := zA hc1
 clear hr1 hc1
 have HB := zA (Below.refl w.heap.size w)
 have H : ((impl_checkPosition.f k a0_0 l0_1 l1 a2).bind fun bt624 => (if bt624.2 = 0 then ((impl_converse.f k bt624.1).bind fun t628 => (if 0 ≤ a2 then (if a2 < (t628.length : Int) then (some (rd t628 a2, 0)) else (none)) else (none))) else (some (0, bt624.2)))) = some (r1, r2) := h
 clear h
 obtain ⟨⟨t624, t627⟩, A4, H⟩ := zb H
 try dsimp only at H
 by_cases c5 : t627 = 0
 ·rw [if_pos c5] at H
  have c5b0 : (t627 == 0) = true := beq_iff_eq.mpr c5
  have c5b1 : (t627 != 0) = false := bne_eq_false_iff_eq.mpr c5
  clear c5
  obtain ⟨t628, A6, H⟩ := zb H
  try dsimp only at H
  by_cases c7 : 0 ≤ a2
  ·rw [if_pos c7] at H
   have c7b0 : decide (0 ≤ a2) = true := decide_eq_true c7
   clear c7
   by_cases c8 : a2 < (t628.length : Int)
   ·rw [if_pos c8] at H
    have c8b0 : decide (a2 < (t628.length : Int)) = true := decide_eq_true c8
    clear c8
    simp only [Option.some.injEq, Prod.mk.injEq] at H
    obtain ⟨rfl, rfl⟩ := H
    go_enter Tryd.func35, Tryd.ntmps35
    go_wp2_with (first | ((with_reducible refine gate_dst (N := 3) rfl ?_); refine box_event ?hg (N := 3) ?hd (cs := #[.int .i64 a0_0, .slice A0_1 l0_1.length c0_1]) (t := 26) ?hr ?_; (case hd => rfl); (case hg => rfl); (case hr => first | (go_simp; done) | (go_simp; rfl)); intro gb623 hg w9 hbox hb; have BK623 := zA (hbox); have GW623 := zA ((by rw [hg]; exact (below_size (zQ HB.out)) : w.heap.size ≤ gb623)); have GE623 := zA ((by rw [hg]; exact (below_size (zQ HB.out)) : w.heap.size ≤ gb623)); replace HB := zA (below_step (zQ HB.out) hb); clear hb hbox hg; have hcz10_0 : w9.cell? ⟨gb623, 0, none⟩ = some (.int .i64 a0_0) := (blk_cell BK623.out 0).trans rfl; have hcz10_1 : w9.cell? ⟨gb623, 1, none⟩ = some (.slice A0_1 l0_1.length c0_1) := (blk_cell BK623.out 1).trans rfl; have hfz10_0 := blk_frozen BK623.out 0; have hfz10_1 := blk_frozen BK623.out 1) | ((with_reducible refine gate_callee (f := 89) rfl ?_); refine zO (some 14) Tryd.func89 #[.agg #[.int .i64 a0_0, .slice A0_1 l0_1.length c0_1], .slice A1 l1.length c1, .int .i64 a2] ?_; (with_reducible refine (impl_checkPosition.calls k a0_0 _ _ l0_1 (fun k_ => k_ < w.heap.size) _ _ l1 a2 t624 t627 _ ?side1 ?side2 ?side3 ?side4 A4.out).mono ?_); (case side1 => exact zS (Kd.C_below HR0_1.out HB.out)); (case side2 => exact HC0_1.out); (case side3 => exact Kd.V_mk HC1.out (Kd.F_below (Kd.C_F (Kd.heap_int .i64) HR1.out) (zT HB.out GE623.out))); (case side4 => exact TabW.below HT.out (zT HB.out GE623.out)); rintro e w11 ⟨v625, rfl, ho0, hb⟩; refine ⟨_, rfl, ?_⟩; have HO626 := zA (Kd.R_lower (Kd.R_mono (ok' := fun k_ => True) ho0 (fun _ hk_ => trivial)) (below_size (zT HB.out GE623.out))); replace BK623 := zA (blk_below (g := gb623) (o := .cells #[.int .i64 a0_0, .slice A0_1 l0_1.length c0_1] 26 (0, 0)) (zR BK623.out) hb); replace HB := zA (below_step (zT HB.out GE623.out) hb); (try clear hb); (try clear ho0); obtain ⟨Ao12, co12, eo12⟩ := Kd.R_slice HO626.out; subst eo12) | ((with_reducible refine gate_callee (f := 85) rfl ?_); refine zO (some 21) Tryd.func85 #[.slice Ao12 t624.length co12] ?_; (with_reducible refine (impl_converse.calls k _ _ t624 t628 _ ?side1 ?side2 ?side3 A6.out).mono ?_); (case side1 => exact zS (Kd.R_reads' HO626.out).2.2); (case side2 => exact (Kd.R_reads' HO626.out).2.1); (case side3 => exact TabW.below HT.out (zT HB.out GE623.out)); rintro e w13 ⟨v629, rfl, ho0, hb⟩; refine ⟨_, rfl, ?_⟩; have HO630 := zA (Kd.R_lower (Kd.R_new' ho0 (Kd.R_lt (zP HO626.out))) (below_size (zT HB.out GE623.out))); replace HO626 := zA (Kd.R_elder' (zP HO626.out) (Kd.R_base ho0) hb); replace BK623 := zA (blk_below (g := gb623) (o := .cells #[.int .i64 a0_0, .slice A0_1 l0_1.length c0_1] 26 (0, 0)) (zR BK623.out) hb); replace HB := zA (below_step (zT HB.out GE623.out) hb); (try clear hb); (try clear ho0); obtain ⟨Ao14, co14, eo14⟩ := Kd.R_slice HO630.out; subst eo14; have p631 : 0 ≤ (a2 : Int) := zd; have q631 : a2 < (t628.length : Int) := zd; obtain ⟨ad631, e631, hx631_0⟩ := Kd.at_int (Kd.R_reads' HO630.out).2.2 a2 p631 q631; cases e631; replace p631 := eq_true p631; replace q631 := eq_true q631))
    go_ret2
    exact ⟨zr, zT HB.out GE623.out⟩
   rw [if_neg c8] at H
   exact absurd H (by simp)
  rw [if_neg c7] at H
  exact absurd H (by simp)
 rw [if_neg c5] at H
 have c5b0 : (t627 == 0) = false := beq_eq_false_iff_ne.mpr c5
 have c5b1 : (t627 != 0) = true := bne_iff_ne.mpr c5
 simp only [Option.some.injEq, Prod.mk.injEq] at H
 obtain ⟨rfl, rfl⟩ := H
 go_enter Tryd.func35, Tryd.ntmps35
 go_wp2_with (first | ((with_reducible refine gate_dst (N := 3) rfl ?_); refine box_event ?hg (N := 3) ?hd (cs := #[.int .i64 a0_0, .slice A0_1 l0_1.length c0_1]) (t := 26) ?hr ?_; (case hd => rfl); (case hg => rfl); (case hr => first | (go_simp; done) | (go_simp; rfl)); intro gb623 hg w15 hbox hb; have BK623 := zA (hbox); have GW623 := zA ((by rw [hg]; exact (below_size (zQ HB.out)) : w.heap.size ≤ gb623)); have GE623 := zA ((by rw [hg]; exact (below_size (zQ HB.out)) : w.heap.size ≤ gb623)); replace HB := zA (below_step (zQ HB.out) hb); clear hb hbox hg; have hcz16_0 : w15.cell? ⟨gb623, 0, none⟩ = some (.int .i64 a0_0) := (blk_cell BK623.out 0).trans rfl; have hcz16_1 : w15.cell? ⟨gb623, 1, none⟩ = some (.slice A0_1 l0_1.length c0_1) := (blk_cell BK623.out 1).trans rfl; have hfz16_0 := blk_frozen BK623.out 0; have hfz16_1 := blk_frozen BK623.out 1) | ((with_reducible refine gate_callee (f := 89) rfl ?_); refine zO (some 14) Tryd.func89 #[.agg #[.int .i64 a0_0, .slice A0_1 l0_1.length c0_1], .slice A1 l1.length c1, .int .i64 a2] ?_; (with_reducible refine (impl_checkPosition.calls k a0_0 _ _ l0_1 (fun k_ => k_ < w.heap.size) _ _ l1 a2 t624 t627 _ ?side1 ?side2 ?side3 ?side4 A4.out).mono ?_); (case side1 => exact zS (Kd.C_below HR0_1.out HB.out)); (case side2 => exact HC0_1.out); (case side3 => exact Kd.V_mk HC1.out (Kd.F_below (Kd.C_F (Kd.heap_int .i64) HR1.out) (zT HB.out GE623.out))); (case side4 => exact TabW.below HT.out (zT HB.out GE623.out)); rintro e w17 ⟨v625, rfl, ho0, hb⟩; refine ⟨_, rfl, ?_⟩; have HO626 := zA (Kd.R_lower (Kd.R_mono (ok' := fun k_ => True) ho0 (fun _ hk_ => trivial)) (below_size (zT HB.out GE623.out))); replace BK623 := zA (blk_below (g := gb623) (o := .cells #[.int .i64 a0_0, .slice A0_1 l0_1.length c0_1] 26 (0, 0)) (zR BK623.out) hb); replace HB := zA (below_step (zT HB.out GE623.out) hb); (try clear hb); (try clear ho0)))
 go_ret2
 exact ⟨zr, zT HB.out GE623.out⟩

/-! ### impl_concurrent: function 90 -/
def impl_concurrent.l0 : Nat → List Int → List Int → List Int → Int → Int → Option (List Int)
 | 0, _, _, _, _, _ => none
 | k + 1, x0, x3, x8, x9, x10 => if x10 < x9 then (if 0 ≤ x10 then (if x10 < (x8.length : Int) then ((impl_length_int64.f x0).bind fun t639 => ((impl_one.f t639).bind fun t640 => (if x10 < (x0.length : Int) then (if x3.length < 17592186044416 then (impl_concurrent.l0 k x0 (x3 ++ [Go.bits .andNot .i64 (Go.bits .andNot .i64 (wrap64 (t640 - 1)) (rd x8 x10)) (rd x0 x10)]) x8 x9 (wrap64 (x10 + 1))) else (none)) else (none)))) else (none)) else (none)) else (some x3)
def impl_concurrent.f (k : Nat) (l0 : List Int) : Option (List Int) := (impl_converse.f k l0).bind fun t635 => (impl_concurrent.l0 k l0 (([] : List Int)) t635 (t635.length : Int) 0)

def impl_concurrent.T5 : Bool × List (List Nat × List Nat) := (true, [([], []), ([], []), ([1], [1]), ([2, 2], [2]), ([3], [3]), ([], []), ([4, 5], [4, 5]), ([], []), ([], []), ([7, 8], [7, 8]), ([9], [9]), ([6, 10], [6, 10]), ([11], [11]), ([0, 12, 3], [0, 12]), ([13, 13, 0, 1, 2, 3, 4, 5, 6, 7, 8, 9, 10, 11, 12, 13], [0, 13])])
def impl_concurrent.B5 : List Nat := [0, 0, 2, 6, 14, 0, 62, 0, 0, 384, 896, 2046, 4094, 8191, 16383]
theorem impl_concurrent.tab5 : rtab .any (opsOf Tryd.f90 5) = impl_concurrent.T5 := by kernel_rfl
theorem impl_concurrent.bits5 : waitsOk impl_concurrent.T5.2 impl_concurrent.B5 = true := by kernel_rfl
set_option maxHeartbeats 8000000 in
set_option maxRecDepth 100000 in
theorem impl_concurrent.calls (k : Nat) (A0 : Option Addr) (c0 : Nat) (l0 : List Int) (r : List Int) (w : World) (hr0 : Kd.C (Kd.int .i64) w A0 l0.length l0) (hc0 : l0.length ≤ c0) (hT : TabW w) (h : impl_concurrent.f k l0 = some r) :
  Calls Tryd.prog 90 #[.slice A0 l0.length c0] w fun e w' => ∃ v0_ : Value, e = .returned (v0_) ∧ Kd.R (Kd.int .i64) 2 w' w.heap.size (fun _ => True) v0_ r ∧ Below w.heap.size w w' := by
 have HT := zA hT
 clear hT
 have HR0 := zA hr0
 have HC0 := zA hc0
 clear hr0 hc0
 have HB := zA (Below.refl w.heap.size w)
 have H : ((impl_converse.f k l0).bind fun t635 => (impl_concurrent.l0 k l0 (([] : List Int)) t635 (t635.length : Int) 0)) = some r := h
 clear h
 obtain ⟨y632, hy632⟩ : ∃ y_ : List Int, y_ = (([] : List Int)) := ⟨_, rfl⟩
 replace H : ((impl_converse.f k l0).bind fun t635 => (impl_concurrent.l0 k l0 y632 t635 (t635.length : Int) 0)) = some r := zy hy632 H
 have Ny632 := zA hy632
 clear hy632
 obtain ⟨t635, A2, H⟩ := zb H
 try dsimp only at H
 have H' := zA H
 clear H
 go_enter Tryd.func90, Tryd.ntmps90
 go_wp2_with (first | ((with_reducible refine gate_dst (N := 6) rfl ?_); refine Kd.R_lit (Kd.int .i64) _ 2 ?hg (N := 6) ?hd (xs := ([] : List Int)) (inner := []) (ok := fun _ => True) (okp := fun _ => True) ?hr ?hp (fun _ hk => hk) trivial (Below.refl _ _) (Nat.le_refl _) (by simp) ?_; (case hd => rfl); (case hg => rfl); (case hr => first | (go_simp; done) | (go_simp; rfl)); (case hp => exact (Reps.none _ _)); intro v633 w3 ho4 hb hg_ hnew_; clear hg_ hnew_; (first | rw [← Ny632.out] at ho4 | (simp only [Int.reduceToNat] at ho4; rw [← Ny632.out] at ho4)); have HO634 := zA (Kd.R_lower ho4 (below_size (zQ HB.out))); replace HB := zA (below_step (zQ HB.out) hb); clear hb ho4) | ((with_reducible refine gate_callee (f := 85) rfl ?_); refine zO (some 8) Tryd.func85 #[.slice A0 l0.length c0] ?_; (with_reducible refine (impl_converse.calls k _ _ l0 t635 _ ?side1 ?side2 ?side3 A2.out).mono ?_); (case side1 => exact zS (Kd.C_below HR0.out HB.out)); (case side2 => exact HC0.out); (case side3 => exact TabW.below HT.out (zQ HB.out)); rintro e w5 ⟨v636, rfl, ho0, hb⟩; refine ⟨_, rfl, ?_⟩; have HO637 := zA (Kd.R_lower (Kd.R_new' ho0 (Kd.R_lt (zP HO634.out))) (below_size (zQ HB.out))); replace HO634 := zA (Kd.R_elder' (zP HO634.out) (Kd.R_base ho0) hb); replace HB := zA (below_step (zQ HB.out) hb); (try clear hb); (try clear ho0); obtain ⟨Ao6, co6, eo6⟩ := Kd.R_slice HO637.out; subst eo6))
 go_loopg [3, 10] k (fun kq v3 v10 w' => ∃ (x3_1 : List Int) (x10_1 : Int), v10 = .int .i64 x10_1 ∧ Aside0 (impl_concurrent.l0 kq l0 x3_1 t635 (t635.length : Int) x10_1 = some r) ∧ Aside0 (kq ≤ k) ∧ Aside0 (Kd.R (Kd.int .i64) 2 w' w.heap.size (fun k_ => some k_ ≠ ((.slice Ao6 t635.length co6) : Value).ownBlock) v3 x3_1) ∧ Aside0 (Kd.R (Kd.int .i64) 2 w' w.heap.size (fun k_ => some k_ ≠ (v3 : Value).ownBlock) (.slice Ao6 t635.length co6) t635) ∧ Aside0 (Below w.heap.size w w'))
 case atStart => exact ⟨(y632), (0), (by first | rfl | (simp; done) | (simp [*]; done)), H', ⟨Nat.le_refl _⟩, ⟨by (with_reducible repeat (first | apply zF | apply zG | apply zH)); exact Kd.R_mono HO634.out (fun _ hk => hk.2)⟩, ⟨by (with_reducible repeat (first | apply zF | apply zG | apply zH)); exact Kd.R_mono HO637.out (fun _ hk => hk.2)⟩, ⟨zQ HB.out⟩⟩
 case round =>
  clear H'
  try clear p2
  obtain ⟨x3_1, x10_1, rfl, HA, HK1, HO_3, HO_8, HB⟩ := hrel
  cases gk with
  | zero => exact absurd HA.out (by simp [impl_concurrent.l0])
  | succ k1 =>
   have H := HA.out
   clear HA
   simp only [impl_concurrent.l0] at H
   by_cases c7 : x10_1 < (t635.length : Int)
   ·rw [if_pos c7] at H
    have c7b0 : decide (x10_1 < (t635.length : Int)) = true := decide_eq_true c7
    clear c7
    by_cases c8 : 0 ≤ x10_1
    ·rw [if_pos c8] at H
     have c8b0 : decide (0 ≤ x10_1) = true := decide_eq_true c8
     clear c8
     by_cases c9 : x10_1 < (t635.length : Int)
     ·rw [if_pos c9] at H
      have c9b0 : decide (x10_1 < (t635.length : Int)) = true := decide_eq_true c9
      clear c9
      obtain ⟨t639, A10, H⟩ := zb H
      try dsimp only at H
      obtain ⟨t640, A11, H⟩ := zb H
      try dsimp only at H
      by_cases c12 : x10_1 < (l0.length : Int)
      ·rw [if_pos c12] at H
       have c12b0 : decide (x10_1 < (l0.length : Int)) = true := decide_eq_true c12
       clear c12
       by_cases c13 : x3_1.length < 17592186044416
       ·rw [if_pos c13] at H
        have LMc13 := zA c13
        clear c13
        obtain ⟨y642, hy642⟩ : ∃ y_ : List Int, y_ = (x3_1 ++ [Go.bits .andNot .i64 (Go.bits .andNot .i64 (wrap64 (t640 - 1)) (rd t635 x10_1)) (rd l0 x10_1)]) := ⟨_, rfl⟩
        replace H : (impl_concurrent.l0 k1 l0 y642 t635 (t635.length : Int) (wrap64 (x10_1 + 1))) = some r := zy hy642 H
        have Ny642 := zA hy642
        clear hy642
        have H' := zA H
        clear H
        have p638 : 0 ≤ (x10_1 : Int) := zd
        have q638 : x10_1 < (t635.length : Int) := zd
        obtain ⟨ad638, e638, hx638_0⟩ := Kd.at_int (Kd.R_reads' HO_8.out).2.2 x10_1 p638 q638
        cases e638
        replace p638 := eq_true p638
        replace q638 := eq_true q638
        try go_wp2
        replace HO_3 := zA (zH HO_3.out)
        replace HO_8 := zA (zH HO_8.out)
        replace HB := zA (zD HB.out)
        have p641 : 0 ≤ (x10_1 : Int) := zd
        have q641 : x10_1 < (l0.length : Int) := zd
        obtain ⟨ad641, e641, hx641_0⟩ := Kd.at_int HR0.out x10_1 p641 q641
        have hw641_0 := hx641_0
        cases e641
        replace hx641_0 := (HB.out.cell (World.block_lt_of_cell? w _ hx641_0)).trans hx641_0
        replace p641 := eq_true p641
        replace q641 := eq_true q641
        refine start_ (n := 15) (S := fun w' => w'.cell? (ad641.add (x10_1).toNat) = some (.int .i64 (rd l0 x10_1))) (ds := []) #[false, false, false, false, false, false, false, false, false, false, false, false, false, false, false] (by kernel_rfl) rfl rfl ((pw_cell_below HB.out hw641_0)) (fun hHeld => ?_); refine with_tabW impl_concurrent.tab5 impl_concurrent.bits5 (fun HT_ HW_ => ?_)
        generalize wr.drew = w14 at HO_3 HO_8 HB hx641_0 hHeld ⊢
        refine zp 0 (some 15) #[true, false, false, false, false, false, false, false, false, false, false, false, false, false, false] HT_.out ?_
        refine zp 1 (some 16) #[true, true, false, false, false, false, false, false, false, false, false, false, false, false, false] HT_.out ?_
        refine zp 5 (some 20) #[true, true, false, false, false, true, false, false, false, false, false, false, false, false, false] HT_.out ?_
        refine zp 7 (some 22) #[true, true, false, false, false, true, false, true, false, false, false, false, false, false, false] HT_.out ?_
        refine zp 8 (some 23) #[true, true, false, false, false, true, false, true, true, false, false, false, false, false, false] HT_.out ?_
        refine zp 9 (some 24) #[true, true, false, false, false, true, false, true, true, true, false, false, false, false, false] HT_.out ?_
        refine za 10 (some 25) #[true, true, false, false, false, true, false, true, true, true, true, false, false, false, false] HT_.out HW_.out hHeld ?_
        refine one_ (i := 2) (N := some 17) #[true, true, true, false, false, true, false, true, true, true, true, false, false, false, false] rfl rfl (one_of HT_.out (by kernel_rfl)) (by decide) (fun K hK => ?_)
        refine goes_ Tryd.func82 (by kernel_rfl) rfl #[.slice (some ad641) l0.length c0] (by rfl) rfl rfl (by (try simp only [List.map_toArray, List.map_cons, List.map_nil]); first | done | rfl | (simp only [List.length_drop, List.length_take]; rfl)) ?_
        with_reducible refine (impl_length_int64.calls _ _ l0 t639 _ ?side1 ?side2 A10.out).mono ?_
        (case side1 => exact zS (Kd.C_below HR0.out HB.out))
        (case side2 => exact HC0.out)
        rintro e w' ⟨rfl, ⟨nd, rfl⟩⟩
        refine ⟨_, rfl, ?_⟩
        refine hK.out _ _ ((pw_cell_below HB.out hw641_0)) (fun hHeld => ?_)
        clear hK K
        refine norm_ (a' := ?_) ?_ ?_
        rotate_left
        ·show Act.put _ (some 17) _ = _
         simp only [Act.put, zL, zM, zN, i64_w, i32_w]
         rfl
        refine one_ (i := 3) (N := some 18) #[true, true, true, true, false, true, false, true, true, true, true, false, false, false, false] rfl rfl (one_of HT_.out (by kernel_rfl)) (by decide) (fun K hK => ?_)
        refine goes_ Tryd.func105 (by kernel_rfl) rfl #[.int .i64 t639] (by rfl) rfl rfl (by (try simp only [List.map_toArray, List.map_cons, List.map_nil]); first | done | rfl | (simp only [List.length_drop, List.length_take]; rfl)) ?_
        with_reducible refine (impl_one.calls t639 t640 _ A11.out).mono ?_
        rintro e w' ⟨rfl, ⟨nd, rfl⟩⟩
        refine ⟨_, rfl, ?_⟩
        refine hK.out _ _ ((pw_cell_below HB.out hw641_0)) (fun hHeld => ?_)
        clear hK K
        refine norm_ (a' := ?_) ?_ ?_
        rotate_left
        ·show Act.put _ (some 18) _ = _
         simp only [Act.put, zL, zM, zN, i64_w, i32_w]
         rfl
        refine zp 4 (some 19) #[true, true, true, true, true, true, false, true, true, true, true, false, false, false, false] HT_.out ?_
        refine zp 6 (some 21) #[true, true, true, true, true, true, true, true, true, true, true, false, false, false, false] HT_.out ?_
        refine zp 11 (some 26) #[true, true, true, true, true, true, true, true, true, true, true, true, false, false, false] HT_.out ?_
        refine one_ (i := 12) (N := some 27) #[true, true, true, true, true, true, true, true, true, true, true, true, true, false, false] rfl rfl (one_of HT_.out (by kernel_rfl)) (by decide) (fun K hK => ?_)
        refine value_ (w1 := ?_) (v := ?_) (by rfl) rfl ?_ ?_
        rotate_left 2
        ·go_simp
         constructor
         ·rfl
         rfl
        refine hK.out _ _ ((World.cell?_alloc_lt _ _ _ (World.block_lt_of_cell? _ _ ((pw_cell_below HB.out hw641_0)))).trans ((pw_cell_below HB.out hw641_0))) (fun hHeld => ?_)
        clear hK K
        refine norm_ (a' := ?_) ?_ ?_
        rotate_left
        ·show Act.put _ (some 27) _ = _
         simp only [Act.put, zL, zM, zN, i64_w, i32_w]
         rfl
        refine one_ (i := 13) (N := some 28) #[true, true, true, true, true, true, true, true, true, true, true, true, true, true, false] rfl rfl (one_of HT_.out (by kernel_rfl)) (by decide) (fun K hK => ?_)
        refine Kd.R_append_step (Kd.int .i64) (w0 := w) w.heap.size (by rfl) (.tmp 15) (.tmp 27) 24 2 (.int .i64 0) 8 rfl Tryd.underlying24 info2 rfl (by decide) (by omega) u3 x3_1 (Go.bits .andNot .i64 (Go.bits .andNot .i64 (wrap64 (t640 - 1)) (rd t635 x10_1)) (rd l0 x10_1)) [.int .i64 (Go.bits .andNot .i64 (Go.bits .andNot .i64 (wrap64 (t640 - 1)) (rd t635 x10_1)) (rd l0 x10_1))] (fun k_ => some k_ ≠ (.slice (some ad638) t635.length co6 : Value).ownBlock) (fun _ => False) rfl rfl ?aP (fun _ hk => hk.elim) ?aF ?aO ?aB ?aS ?aL ?_
        (case aP => exact rfl)
        (case aB => exact (zQ HB.out))
        (case aF => exact (fun k_ hk => Kd.fresh' (Kd.R_lt (zP HO_8.out)) k_ hk))
        (case aO => exact (zP HO_3.out))
        (case aS => exact (below_size (zQ HB.out)))
        (case aL => have := LMc13.out; omega)
        intro v643 w15 ho hb hg hat
        rw [← Ny642.out] at ho
        replace HO_8 := zA (Kd.R_after (ok := (fun _ => True)) (by (with_reducible repeat (first | apply zF | apply zG | apply zH)); exact Kd.R_mono HO_8.out (fun _ hk => ⟨trivial, hk⟩)) hg hat)
        replace HB := zA (hb)
        have HO644 := zA (ho)
        clear HO_3 ho hb hg hat
        refine hK.out _ _ ((pw_cell_below HB.out hw641_0)) (fun hHeld => ?_)
        clear hK K
        refine norm_ (a' := ?_) ?_ ?_
        rotate_left
        ·show Act.put _ (some 28) _ = _
         simp only [Act.put, zL, zM, zN, i64_w, i32_w]
         rfl
        refine zp 14 (some 3) #[true, true, true, true, true, true, true, true, true, true, true, true, true, true, true] HT_.out ?_
        refine done_ (done_of HT_.out (by kernel_rfl)) ?_
        try go_wp2
        go_roundg k1
        case measure => have := HK1.out; omega
        case rel => exact ⟨(y642), (wrap64 (x10_1 + 1)), (by first | rfl | (simp; done) | (simp [*]; done)), H', ⟨by have := HK1.out; omega⟩, ⟨by (with_reducible repeat (first | apply zF | apply zG | apply zH)); exact HO644.out⟩, ⟨by (with_reducible repeat (first | apply zF | apply zG | apply zH)); exact Kd.R_mono HO_8.out (fun _ hk => hk.2)⟩, ⟨zQ HB.out⟩⟩
       rw [if_neg c13] at H
       exact absurd H (by simp)
      rw [if_neg c12] at H
      exact absurd H (by simp)
     rw [if_neg c9] at H
     exact absurd H (by simp)
    rw [if_neg c8] at H
    exact absurd H (by simp)
   rw [if_neg c7] at H
   have c7b0 : decide (x10_1 < (t635.length : Int)) = false := decide_eq_false c7
   clear c7
   obtain rfl := Option.some.inj H
   go_wp2
   go_ret
   exact ⟨_, zr, by (with_reducible repeat (first | apply zF | apply zG | apply zH)); exact Kd.R_mono HO_3.out (fun _ hk => trivial), zQ HB.out⟩

/-! ### impl_ConcurrentWith: function 36 -/
def impl_ConcurrentWith.f (k : Nat) (a0_0 : Int) (l0_1 : List Int) (l1 : List Int) (a2 : Int) : Option (Int × Int) := (impl_checkPosition.f k a0_0 l0_1 l1 a2).bind fun bt646 => (if bt646.2 = 0 then ((impl_concurrent.f k bt646.1).bind fun t650 => (if 0 ≤ a2 then (if a2 < (t650.length : Int) then (some (rd t650 a2, 0)) else (none)) else (none))) else (some (0, bt646.2)))

set_option maxHeartbeats 8000000 in
set_option maxRecDepth 100000 in
theorem impl_ConcurrentWith.calls (k : Nat) (a0_0 : Int) (A0_1 : Option Addr) (c0_1 : Nat) (l0_1 : List Int) (A1 : Option Addr) (c1 : Nat) (l1 : List Int) (a2 : Int) (r1 : Int) (r2 : Int) (w : World) (hr0_1 : Kd.C (Kd.int .i64) w A0_1 l0_1.length l0_1) (hc0_1 : l0_1.length ≤ c0_1) (hr1 : Kd.C (Kd.int .i64) w A1 l1.length l1) (hc1 : l1.length ≤ c1) (hT : TabW w) (h : impl_ConcurrentWith.f k a0_0 l0_1 l1 a2 = some (r1, r2)) :
  Calls Tryd.prog 36 #[.agg #[.int .i64 a0_0, .slice A0_1 l0_1.length c0_1], .slice A1 l1.length c1, .int .i64 a2] w fun e w' => e = .returned (.tuple #[.int .i64 r1, .int .i64 r2]) ∧ Below w.heap.size w w' := by
 have hu26 := Tryd.underlying26
 have HT := zA hT
 clear hT
 have HR0_1 := zA hr0_1
 have HC0_1 := zA hc0_1
 clear hr0_1 hc0_1
 have HR1 := zA hr1
 have HC1 := zA hc1
 clear hr1 hc1
 have HB := zA (Below.refl w.heap.size w)
 have H : ((impl_checkPosition.f k a0_0 l0_1 l1 a2).bind fun bt646 => (if bt646.2 = 0 then ((impl_concurrent.f k bt646.1).bind fun t650 => (if 0 ≤ a2 then (if a2 < (t650.length : Int) then (some (rd t650 a2, 0)) else (none)) else (none))) else (some (0, bt646.2)))) = some (r1, r2) := h
 clear h
 obtain ⟨⟨t646, t649⟩, A4, H⟩ := zb H
 try dsimp only at H
 by_cases c5 : t649 = 0
 ·rw [if_pos c5] at H
  have c5b0 : (t649 == 0) = true := beq_iff_eq.mpr c5
  have c5b1 : (t649 != 0) = false := bne_eq_false_iff_eq.mpr c5
  clear c5
  obtain ⟨t650, A6, H⟩ := zb H
  try dsimp only at H
  by_cases c7 : 0 ≤ a2
  ·rw [if_pos c7] at H
   have c7b0 : decide (0 ≤ a2) = true := decide_eq_true c7
   clear c7
   by_cases c8 : a2 < (t650.length : Int)
   ·rw [if_pos c8] at H
    have c8b0 : decide (a2 < (t650.length : Int)) = true := decide_eq_true c8
    clear c8
    simp only [Option.some.injEq, Prod.mk.injEq] at H
    obtain ⟨rfl, rfl⟩ := H
    go_enter Tryd.func36, Tryd.ntmps36
    go_wp2_with (first | ((with_reducible refine gate_dst (N := 3) rfl ?_); refine box_event ?hg (N := 3) ?hd (cs := #[.int .i64 a0_0, .slice A0_1 l0_1.length c0_1]) (t := 26) ?hr ?_; (case hd => rfl); (case hg => rfl); (case hr => first | (go_simp; done) | (go_simp; rfl)); intro gb645 hg w9 hbox hb; have BK645 := zA (hbox); have GW645 := zA ((by rw [hg]; exact (below_size (zQ HB.out)) : w.heap.size ≤ gb645)); have GE645 := zA ((by rw [hg]; exact (below_size (zQ HB.out)) : w.heap.size ≤ gb645)); replace HB := zA (below_step (zQ HB.out) hb); clear hb hbox hg; have hcz10_0 : w9.cell? ⟨gb645, 0, none⟩ = some (.int .i64 a0_0) := (blk_cell BK645.out 0).trans rfl; have hcz10_1 : w9.cell? ⟨gb645, 1, none⟩ = some (.slice A0_1 l0_1.length c0_1) := (blk_cell BK645.out 1).trans rfl; have hfz10_0 := blk_frozen BK645.out 0; have hfz10_1 := blk_frozen BK645.out 1) | ((with_reducible refine gate_callee (f := 89) rfl ?_); refine zO (some 14) Tryd.func89 #[.agg #[.int .i64 a0_0, .slice A0_1 l0_1.length c0_1], .slice A1 l1.length c1, .int .i64 a2] ?_; (with_reducible refine (impl_checkPosition.calls k a0_0 _ _ l0_1 (fun k_ => k_ < w.heap.size) _ _ l1 a2 t646 t649 _ ?side1 ?side2 ?side3 ?side4 A4.out).mono ?_); (case side1 => exact zS (Kd.C_below HR0_1.out HB.out)); (case side2 => exact HC0_1.out); (case side3 => exact Kd.V_mk HC1.out (Kd.F_below (Kd.C_F (Kd.heap_int .i64) HR1.out) (zT HB.out GE645.out))); (case side4 => exact TabW.below HT.out (zT HB.out GE645.out)); rintro e w11 ⟨v647, rfl, ho0, hb⟩; refine ⟨_, rfl, ?_⟩; have HO648 := zA (Kd.R_lower (Kd.R_mono (ok' := fun k_ => True) ho0 (fun _ hk_ => trivial)) (below_size (zT HB.out GE645.out))); replace BK645 := zA (blk_below (g := gb645) (o := .cells #[.int .i64 a0_0, .slice A0_1 l0_1.length c0_1] 26 (0, 0)) (zR BK645.out) hb); replace HB := zA (below_step (zT HB.out GE645.out) hb); (try clear hb); (try clear ho0); obtain ⟨Ao12, co12, eo12⟩ := Kd.R_slice HO648.out; subst eo12) | ((with_reducible refine gate_callee (f := 90) rfl ?_); refine zO (some 21) Tryd.func90 #[.slice Ao12 t646.length co12] ?_; (with_reducible refine (impl_concurrent.calls k _ _ t646 t650 _ ?side1 ?side2 ?side3 A6.out).mono ?_); (case side1 => exact zS (Kd.R_reads' HO648.out).2.2); (case side2 => exact (Kd.R_reads' HO648.out).2.1); (case side3 => exact TabW.below HT.out (zT HB.out GE645.out)); rintro e w13 ⟨v651, rfl, ho0, hb⟩; refine ⟨_, rfl, ?_⟩; have HO652 := zA (Kd.R_lower (Kd.R_new' ho0 (Kd.R_lt (zP HO648.out))) (below_size (zT HB.out GE645.out))); replace HO648 := zA (Kd.R_elder' (zP HO648.out) (Kd.R_base ho0) hb); replace BK645 := zA (blk_below (g := gb645) (o := .cells #[.int .i64 a0_0, .slice A0_1 l0_1.length c0_1] 26 (0, 0)) (zR BK645.out) hb); replace HB := zA (below_step (zT HB.out GE645.out) hb); (try clear hb); (try clear ho0); obtain ⟨Ao14, co14, eo14⟩ := Kd.R_slice HO652.out; subst eo14; have p653 : 0 ≤ (a2 : Int) := zd; have q653 : a2 < (t650.length : Int) := zd; obtain ⟨ad653, e653, hx653_0⟩ := Kd.at_int (Kd.R_reads' HO652.out).2.2 a2 p653 q653; cases e653; replace p653 := eq_true p653; replace q653 := eq_true q653))
    go_ret2
    exact ⟨zr, zT HB.out GE645.out⟩
   rw [if_neg c8] at H
   exact absurd H (by simp)
  rw [if_neg c7] at H
  exact absurd H (by simp)
 rw [if_neg c5] at H
 have c5b0 : (t649 == 0) = false := beq_eq_false_iff_ne.mpr c5
 have c5b1 : (t649 != 0) = true := bne_iff_ne.mpr c5
 simp only [Option.some.injEq, Prod.mk.injEq] at H
 obtain ⟨rfl, rfl⟩ := H
 go_enter Tryd.func36, Tryd.ntmps36
 go_wp2_with (first | ((with_reducible refine gate_dst (N := 3) rfl ?_); refine box_event ?hg (N := 3) ?hd (cs := #[.int .i64 a0_0, .slice A0_1 l0_1.length c0_1]) (t := 26) ?hr ?_; (case hd => rfl); (case hg => rfl); (case hr => first | (go_simp; done) | (go_simp; rfl)); intro gb645 hg w15 hbox hb; have BK645 := zA (hbox); have GW645 := zA ((by rw [hg]; exact (below_size (zQ HB.out)) : w.heap.size ≤ gb645)); have GE645 := zA ((by rw [hg]; exact (below_size (zQ HB.out)) : w.heap.size ≤ gb645)); replace HB := zA (below_step (zQ HB.out) hb); clear hb hbox hg; have hcz16_0 : w15.cell? ⟨gb645, 0, none⟩ = some (.int .i64 a0_0) := (blk_cell BK645.out 0).trans rfl; have hcz16_1 : w15.cell? ⟨gb645, 1, none⟩ = some (.slice A0_1 l0_1.length c0_1) := (blk_cell BK645.out 1).trans rfl; have hfz16_0 := blk_frozen BK645.out 0; have hfz16_1 := blk_frozen BK645.out 1) | ((with_reducible refine gate_callee (f := 89) rfl ?_); refine zO (some 14) Tryd.func89 #[.agg #[.int .i64 a0_0, .slice A0_1 l0_1.length c0_1], .slice A1 l1.length c1, .int .i64 a2] ?_; (with_reducible refine (impl_checkPosition.calls k a0_0 _ _ l0_1 (fun k_ => k_ < w.heap.size) _ _ l1 a2 t646 t649 _ ?side1 ?side2 ?side3 ?side4 A4.out).mono ?_); (case side1 => exact zS (Kd.C_below HR0_1.out HB.out)); (case side2 => exact HC0_1.out); (case side3 => exact Kd.V_mk HC1.out (Kd.F_below (Kd.C_F (Kd.heap_int .i64) HR1.out) (zT HB.out GE645.out))); (case side4 => exact TabW.below HT.out (zT HB.out GE645.out)); rintro e w17 ⟨v647, rfl, ho0, hb⟩; refine ⟨_, rfl, ?_⟩; have HO648 := zA (Kd.R_lower (Kd.R_mono (ok' := fun k_ => True) ho0 (fun _ hk_ => trivial)) (below_size (zT HB.out GE645.out))); replace BK645 := zA (blk_below (g := gb645) (o := .cells #[.int .i64 a0_0, .slice A0_1 l0_1.length c0_1] 26 (0, 0)) (zR BK645.out) hb); replace HB := zA (below_step (zT HB.out GE645.out) hb); (try clear hb); (try clear ho0)))
 go_ret2
 exact ⟨zr, zT HB.out GE645.out⟩

end Go.Proofs.YtkiacoilecdepaaDoor.PAll
