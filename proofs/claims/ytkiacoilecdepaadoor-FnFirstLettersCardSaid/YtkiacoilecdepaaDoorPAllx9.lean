-- Printed by a program of the session (wip/tools/pgen.py) out of the translation. Not trusted: Lean checks it.
import Derived.Test.YtkiacoilecdepaaDoorPAllx0
import Derived.Test.YtkiacoilecdepaaDoorPAllx1
import Derived.Test.YtkiacoilecdepaaDoorPAllx4
import Derived.Test.YtkiacoilecdepaaDoorPAllx5
import Derived.Test.YtkiacoilecdepaaDoorPAllx6
import Derived.Test.YtkiacoilecdepaaDoorPAllx8
namespace Go.Proofs.YtkiacoilecdepaaDoor.PAll
open Go.RowKit Go.Proofs.YtkiacoilecdepaaDoor.T Go.Proofs.YtkiacoilecdepaaDoorW.PrintWords Go.Proofs.YtkiacoilecdepaaDoorW.PrintLast Go.Proofs.YtkiacoilecdepaaDoorW.PrintMore
attribute [local go_sem] max2_int min2_int max_two min_two max_three min_three max_four min_four   -- for this text's walks alone
set_option linter.unusedVariables false
set_option linter.unusedSimpArgs false

/-! ### impl_LastLetters: function 15 -/
def impl_LastLetters.f (k : Nat) (a0_0 : Int) (l0_1 : List Int) (l1 : List Int) : Option (Int × Int) := (impl_checkWords.f k a0_0 l0_1 (([l1] : List (List Int)))).bind fun t470 => (if t470 = 0 then ((impl_Alphabet_ties.f a0_0 l0_1).bind fun t471 => ((impl_ties_lasts.f k t471 l1).bind fun t474 => (some (t474, 0)))) else (some (0, t470)))

set_option maxHeartbeats 8000000 in
set_option maxRecDepth 100000 in
theorem impl_LastLetters.calls (k : Nat) (a0_0 : Int) (P0_1_ : Nat → Prop) (A0_1 : Option Addr) (c0_1 : Nat) (l0_1 : List Int) (P1_ : Nat → Prop) (A1 : Option Addr) (c1 : Nat) (l1 : List Int) (r1 : Int) (r2 : Int) (w : World) (hs0_1 : Kd.V (Kd.int .i64) 2 w w.heap.size (fun k_ => P0_1_ k_) (.slice A0_1 l0_1.length c0_1) l0_1) (hs1 : Kd.V (Kd.int .i64) 2 w w.heap.size (fun k_ => P1_ k_) (.slice A1 l1.length c1) l1) (hT : TabW w) (h : impl_LastLetters.f k a0_0 l0_1 l1 = some (r1, r2)) :
  Calls Tryd.prog 15 #[.agg #[.int .i64 a0_0, .slice A0_1 l0_1.length c0_1], .slice A1 l1.length c1] w fun e w' => e = .returned (.tuple #[.int .i64 r1, .int .i64 r2]) ∧ Below w.heap.size w w' := by
 have hu26 := Tryd.underlying26
 have HT := zA hT
 clear hT
 have HO0_1 := zA (show Kd.V (Kd.int .i64) 2 w w.heap.size (fun k_ => ((P0_1_ k_ ∨ P1_ k_) ∨ w.heap.size ≤ k_)) (.slice A0_1 l0_1.length c0_1) l0_1 from Kd.V_mono hs0_1 (fun k_ hk => .inl (.inl hk)))
 have HO1 := zA (show Kd.V (Kd.int .i64) 2 w w.heap.size (fun k_ => ((P0_1_ k_ ∨ P1_ k_) ∨ w.heap.size ≤ k_)) (.slice A1 l1.length c1) l1 from Kd.V_mono hs1 (fun k_ hk => .inl (.inr hk)))
 have HB := zA (Below.refl w.heap.size w)
 have H : ((impl_checkWords.f k a0_0 l0_1 (([l1] : List (List Int)))).bind fun t470 => (if t470 = 0 then ((impl_Alphabet_ties.f a0_0 l0_1).bind fun t471 => ((impl_ties_lasts.f k t471 l1).bind fun t474 => (some (t474, 0)))) else (some (0, t470)))) = some (r1, r2) := h
 clear h
 obtain ⟨y467, hy467⟩ : ∃ y_ : List (List Int), y_ = (([l1] : List (List Int))) := ⟨_, rfl⟩
 replace H : ((impl_checkWords.f k a0_0 l0_1 y467).bind fun t470 => (if t470 = 0 then ((impl_Alphabet_ties.f a0_0 l0_1).bind fun t471 => ((impl_ties_lasts.f k t471 l1).bind fun t474 => (some (t474, 0)))) else (some (0, t470)))) = some (r1, r2) := by first | (rw [hy467]; with_reducible exact H) | (have H2_ := (Option.bind_some _ _).symm.trans H; rw [hy467]; with_reducible exact H2_) | (have H2_ := (Option.bind_some _ _).symm.trans H; with_reducible exact H2_) | with_reducible exact H | (rw [hy467]; exact H) | exact H
 have Ny467 := zA hy467
 clear hy467
 replace H := Option.bind_eq_some_iff.mp H
 obtain ⟨t470, A30, H⟩ := H
 replace H : (if t470 = 0 then ((impl_Alphabet_ties.f a0_0 l0_1).bind fun t471 => ((impl_ties_lasts.f k t471 l1).bind fun t474 => (some (t474, 0)))) else (some (0, t470))) = some (r1, r2) := H
 have A3 := zA A30
 clear A30
 by_cases c4 : t470 = 0
 ·rw [if_pos c4] at H
  have c4b0 : (t470 == 0) = true := beq_iff_eq.mpr c4
  have c4b1 : (t470 != 0) = false := bne_eq_false_iff_eq.mpr c4
  clear c4
  replace H := Option.bind_eq_some_iff.mp H
  obtain ⟨t471, A50, H⟩ := H
  replace H : ((impl_ties_lasts.f k t471 l1).bind fun t474 => (some (t474, 0))) = some (r1, r2) := H
  have A5 := zA A50
  clear A50
  replace H := Option.bind_eq_some_iff.mp H
  obtain ⟨t474, A60, H⟩ := H
  replace H : (some (t474, 0)) = some (r1, r2) := H
  have A6 := zA A60
  clear A60
  simp only [Option.some.injEq, Prod.mk.injEq] at H
  obtain ⟨rfl, rfl⟩ := H
  go_enter Tryd.func15, Tryd.ntmps15
  go_wp2_with (first | ((with_reducible refine gate_dst (N := 2) rfl ?_); refine box_event ?hg (N := 2) ?hd (cs := #[.int .i64 a0_0, .slice A0_1 l0_1.length c0_1]) (t := 26) ?hr ?_; (case hd => rfl); (case hg => rfl); (case hr => first | (go_simp; done) | (go_simp; rfl)); intro gb466 hg w7 hbox hb; have n0_ := zA (Kd.V_below (Kd.V_elderB (by (with_reducible repeat (first | apply Kd.V_alloc | apply Kd.V_drewN | apply Kd.V_drew)); exact HO0_1.out) gb466 (Nat.le_of_eq hg.symm)) hb); have n1_ := zA (Kd.V_below (Kd.V_elderB (by (with_reducible repeat (first | apply Kd.V_alloc | apply Kd.V_drewN | apply Kd.V_drew)); exact HO1.out) gb466 (Nat.le_of_eq hg.symm)) hb); have n2_ := zA (below_step (zQ HB.out) hb); have n3_ := zA (hbox); have n4_ := zA ((by rw [hg]; exact (below_size (zQ HB.out)) : w.heap.size ≤ gb466)); have n5_ := zA ((by rw [hg]; exact (below_size (zQ HB.out)) : w.heap.size ≤ gb466)); clear HO0_1; clear HO1; clear HB; have HO0_1 := n0_; have HO1 := n1_; have HB := n2_; have BK466 := n3_; have GW466 := n4_; have GE466 := n5_; clear n0_ n1_ n2_ n3_ n4_ n5_; clear hb hbox hg; have hcz8_0 : w7.cell? ⟨gb466, 0, none⟩ = some (.int .i64 a0_0) := (blk_cell BK466.out 0).trans rfl; have hcz8_1 : w7.cell? ⟨gb466, 1, none⟩ = some (.slice A0_1 l0_1.length c0_1) := (blk_cell BK466.out 1).trans rfl; have hfz8_0 := blk_frozen BK466.out 0; have hfz8_1 := blk_frozen BK466.out 1) | ((with_reducible refine gate_dst (N := 9) rfl ?_); refine Kd.N_lit (Kd.slice 2 (Kd.int .i64)) _ 24 ?hg (N' := 9) ?hd (xs := ([l1] : List (List Int))) (inner := [.slice A1 l1.length c1]) (ok := (fun k_ => ((P0_1_ k_ ∨ P1_ k_) ∨ w.heap.size ≤ k_) ∧ k_ ≠ gb466)) (okp := (fun k_ => ((P0_1_ k_ ∨ P1_ k_) ∨ w.heap.size ≤ k_) ∧ k_ ≠ gb466)) ?hr ?hp (fun _ hk => hk) ((show ∀ k_ : Nat, (_ : Nat) ≤ k_ → (fun k_ => ((P0_1_ k_ ∨ P1_ k_) ∨ w.heap.size ≤ k_) ∧ k_ ≠ gb466) k_ from fun k_ hk => ⟨(.inr (Nat.le_trans (below_size (zT HB.out GE466.out)) hk)), Kd.freshB (g := gb466) (o := .cells #[.int .i64 a0_0, .slice A0_1 l0_1.length c0_1] 26 (0, 0)) (zR BK466.out) k_ hk⟩) _ (Nat.le_refl _)) (Below.refl _ _) (Nat.le_refl _) (by simp) ?_; (case hd => rfl); (case hg => rfl); (case hr => first | (go_simp; done) | (go_simp; rfl)); (case hp => exact (Reps.one (show Kd.FK (Kd.slice 2 (Kd.int .i64)) _ _ l1 [.slice A1 l1.length c1] from (Kd.FK_slice_mk (Kd.V_reads' (Kd.V_mono (ok' := (fun k_ => ((P0_1_ k_ ∨ P1_ k_) ∨ w.heap.size ≤ k_) ∧ k_ ≠ gb466)) (HO1.out) (fun k_ hk => ⟨hk.1, hk.2⟩))).2.1 (Kd.V_F (Kd.V_mono (ok' := (fun k_ => ((P0_1_ k_ ∨ P1_ k_) ∨ w.heap.size ≤ k_) ∧ k_ ≠ gb466)) (HO1.out) (fun k_ hk => ⟨hk.1, hk.2⟩))))) (Reps.none _ _))); intro v468 w9 ho10 hb hg_ hnew_; clear hg_ hnew_; (first | rw [← Ny467.out] at ho10 | (simp only [Int.reduceToNat] at ho10; rw [← Ny467.out] at ho10)); have n0_ := zA (Kd.V_elder' (by (with_reducible repeat (first | apply Kd.V_alloc | apply Kd.V_drewN | apply Kd.V_drew)); exact HO0_1.out) (Kd.N_base ho10) hb); have n1_ := zA (Kd.V_elder' (by (with_reducible repeat (first | apply Kd.V_alloc | apply Kd.V_drewN | apply Kd.V_drew)); exact HO1.out) (Kd.N_base ho10) hb); have n2_ := zA (Kd.N_lower ho10 (below_size (zT HB.out GE466.out))); have n3_ := zA (blk_below (g := gb466) (o := .cells #[.int .i64 a0_0, .slice A0_1 l0_1.length c0_1] 26 (0, 0)) (zR BK466.out) hb); have n4_ := zA (below_step (zT HB.out GE466.out) hb); clear HO0_1; clear HO1; clear BK466; clear HB; have HO0_1 := n0_; have HO1 := n1_; have HO469 := n2_; have BK466 := n3_; have HB := n4_; clear n0_ n1_ n2_ n3_ n4_; clear hb ho10; obtain ⟨Ao11, co11, eo11⟩ := Kd.N_slice HO469.out; subst eo11) | ((with_reducible refine gate_callee (f := 49) rfl ?_); refine zO (some 10) Tryd.func49 #[.agg #[.int .i64 a0_0, .slice A0_1 l0_1.length c0_1], .slice Ao11 y467.length co11] ?_; (with_reducible refine (impl_checkWords.calls k a0_0 _ _ l0_1 _ _ y467 t470 _ ?side1 ?side2 ?side3 ?side4 ?side5 A3.out).mono ?_); (case side1 => exact zS (Kd.V_reads' HO0_1.out).2.2); (case side2 => exact (Kd.V_reads' HO0_1.out).2.1); (case side3 => exact zS (Kd.N_reads' HO469.out).2.2); (case side4 => exact (Kd.N_reads' HO469.out).2.1); (case side5 => exact TabW.below HT.out (zT HB.out GE466.out)); rintro e w12 ⟨rfl, hb⟩; refine ⟨_, rfl, ?_⟩; have n0_ := zA (Kd.V_below (by (with_reducible repeat (first | apply Kd.V_alloc | apply Kd.V_drewN | apply Kd.V_drew)); exact HO0_1.out) hb); have n1_ := zA (Kd.V_below (by (with_reducible repeat (first | apply Kd.V_alloc | apply Kd.V_drewN | apply Kd.V_drew)); exact HO1.out) hb); have n2_ := zA (Kd.N_below (by (with_reducible repeat (first | apply Kd.N_alloc | apply Kd.N_drewN | apply Kd.N_drew)); exact HO469.out) hb); have n3_ := zA (blk_below (g := gb466) (o := .cells #[.int .i64 a0_0, .slice A0_1 l0_1.length c0_1] 26 (0, 0)) (zR BK466.out) hb); have n4_ := zA (below_step (zT HB.out GE466.out) hb); clear HO0_1; clear HO1; clear HO469; clear BK466; clear HB; have HO0_1 := n0_; have HO1 := n1_; have HO469 := n2_; have BK466 := n3_; have HB := n4_; clear n0_ n1_ n2_ n3_ n4_; (try clear hb); have hcz13_0 : w12.cell? ⟨gb466, 0, none⟩ = some (.int .i64 a0_0) := (blk_cell BK466.out 0).trans rfl; have hcz13_1 : w12.cell? ⟨gb466, 1, none⟩ = some (.slice A0_1 l0_1.length c0_1) := (blk_cell BK466.out 1).trans rfl; have hfz13_0 := blk_frozen BK466.out 0; have hfz13_1 := blk_frozen BK466.out 1) | ((with_reducible refine gate_callee (f := 50) rfl ?_); refine zO (some 15) Tryd.func50 #[.agg #[.int .i64 a0_0, .slice A0_1 l0_1.length c0_1]] ?_; (with_reducible refine (impl_Alphabet_ties.calls a0_0 (fun k_ => ((((P0_1_ k_ ∨ P1_ k_) ∨ w.heap.size ≤ k_) ∧ k_ ≠ gb466) ∧ some k_ ≠ (.slice Ao11 y467.length co11 : Value).ownBlock)) _ _ l0_1 t471 _ ?side1 A5.out).mono ?_); (case side1 => exact HO0_1.out); rintro e w14 ⟨v472, rfl, ho0, hb⟩; refine ⟨_, rfl, ?_⟩; have n0_ := zA (Kd.V_below (by (with_reducible repeat (first | apply Kd.V_alloc | apply Kd.V_drewN | apply Kd.V_drew)); exact HO0_1.out) hb); have n1_ := zA (Kd.V_below (by (with_reducible repeat (first | apply Kd.V_alloc | apply Kd.V_drewN | apply Kd.V_drew)); exact HO1.out) hb); have n2_ := zA (Kd.N_below (by (with_reducible repeat (first | apply Kd.N_alloc | apply Kd.N_drewN | apply Kd.N_drew)); exact HO469.out) hb); have n3_ := zA (Kd.V_lower (Kd.V_mono (ok' := fun k_ => ((P0_1_ k_ ∨ P1_ k_) ∨ w.heap.size ≤ k_) ∧ some k_ ≠ (.slice Ao11 y467.length co11 : Value).ownBlock ∧ k_ ≠ gb466) ho0 (fun k_ hk_ => ⟨Or.elim hk_ (fun hs_ => hs_.1.1) (fun hn_ => (.inr (Nat.le_trans (below_size (zT HB.out GE466.out)) hn_))), Or.elim hk_ (fun hs_ => hs_.2) (fun hn_ => (Kd.fresh' (Kd.N_lt (by (with_reducible repeat (first | apply Kd.N_alloc | apply Kd.N_drewN | apply Kd.N_drew)); exact HO469.out)) k_ hn_)), Or.elim hk_ (fun hs_ => hs_.1.2) (fun hn_ => (Kd.freshB (g := gb466) (o := .cells #[.int .i64 a0_0, .slice A0_1 l0_1.length c0_1] 26 (0, 0)) (zR BK466.out) k_ hn_))⟩)) (below_size (zT HB.out GE466.out))); have n4_ := zA (blk_below (g := gb466) (o := .cells #[.int .i64 a0_0, .slice A0_1 l0_1.length c0_1] 26 (0, 0)) (zR BK466.out) hb); have n5_ := zA (below_step (zT HB.out GE466.out) hb); clear HO0_1; clear HO1; clear HO469; clear BK466; clear HB; have HO0_1 := n0_; have HO1 := n1_; have HO469 := n2_; have HO473 := n3_; have BK466 := n4_; have HB := n5_; clear n0_ n1_ n2_ n3_ n4_ n5_; (try clear hb); (try clear ho0); obtain ⟨Ao15, co15, eo15⟩ := Kd.V_slice HO473.out; subst eo15) | ((with_reducible refine gate_callee (f := 58) rfl ?_); refine zO (some 17) Tryd.func58 #[.slice Ao15 t471.length co15, .slice A1 l1.length c1] ?_; (with_reducible refine (impl_ties_lasts.calls k _ _ t471 _ _ l1 t474 _ ?side1 ?side2 ?side3 ?side4 A6.out).mono ?_); (case side1 => exact zS (Kd.V_reads' HO473.out).2.2); (case side2 => exact (Kd.V_reads' HO473.out).2.1); (case side3 => exact zS (Kd.V_reads' HO1.out).2.2); (case side4 => exact (Kd.V_reads' HO1.out).2.1); rintro e w16 ⟨rfl, hb⟩; refine ⟨_, rfl, ?_⟩; have n0_ := zA (Kd.V_below (by (with_reducible repeat (first | apply Kd.V_alloc | apply Kd.V_drewN | apply Kd.V_drew)); exact HO0_1.out) hb); have n1_ := zA (Kd.V_below (by (with_reducible repeat (first | apply Kd.V_alloc | apply Kd.V_drewN | apply Kd.V_drew)); exact HO1.out) hb); have n2_ := zA (Kd.N_below (by (with_reducible repeat (first | apply Kd.N_alloc | apply Kd.N_drewN | apply Kd.N_drew)); exact HO469.out) hb); have n3_ := zA (Kd.V_below (by (with_reducible repeat (first | apply Kd.V_alloc | apply Kd.V_drewN | apply Kd.V_drew)); exact HO473.out) hb); have n4_ := zA (blk_below (g := gb466) (o := .cells #[.int .i64 a0_0, .slice A0_1 l0_1.length c0_1] 26 (0, 0)) (zR BK466.out) hb); have n5_ := zA (below_step (zT HB.out GE466.out) hb); clear HO0_1; clear HO1; clear HO469; clear HO473; clear BK466; clear HB; have HO0_1 := n0_; have HO1 := n1_; have HO469 := n2_; have HO473 := n3_; have BK466 := n4_; have HB := n5_; clear n0_ n1_ n2_ n3_ n4_ n5_; (try clear hb)))
  go_ret2
  exact ⟨by first | rfl | (simp [errW_none, errW_some] <;> rfl) | (simp [*, errW_none, errW_some] <;> rfl), by repeat (first | (with_reducible first | exact HB.out | apply zB | apply zC | apply zD | refine zE ?_ GE466.out) | exact HB.out)⟩
 rw [if_neg c4] at H
 have c4b0 : (t470 == 0) = false := beq_eq_false_iff_ne.mpr c4
 have c4b1 : (t470 != 0) = true := bne_iff_ne.mpr c4
 simp only [Option.some.injEq, Prod.mk.injEq] at H
 obtain ⟨rfl, rfl⟩ := H
 go_enter Tryd.func15, Tryd.ntmps15
 go_wp2_with (first | ((with_reducible refine gate_dst (N := 2) rfl ?_); refine box_event ?hg (N := 2) ?hd (cs := #[.int .i64 a0_0, .slice A0_1 l0_1.length c0_1]) (t := 26) ?hr ?_; (case hd => rfl); (case hg => rfl); (case hr => first | (go_simp; done) | (go_simp; rfl)); intro gb466 hg w17 hbox hb; have n0_ := zA (Kd.V_below (Kd.V_elderB (by (with_reducible repeat (first | apply Kd.V_alloc | apply Kd.V_drewN | apply Kd.V_drew)); exact HO0_1.out) gb466 (Nat.le_of_eq hg.symm)) hb); have n1_ := zA (Kd.V_below (Kd.V_elderB (by (with_reducible repeat (first | apply Kd.V_alloc | apply Kd.V_drewN | apply Kd.V_drew)); exact HO1.out) gb466 (Nat.le_of_eq hg.symm)) hb); have n2_ := zA (below_step (zQ HB.out) hb); have n3_ := zA (hbox); have n4_ := zA ((by rw [hg]; exact (below_size (zQ HB.out)) : w.heap.size ≤ gb466)); have n5_ := zA ((by rw [hg]; exact (below_size (zQ HB.out)) : w.heap.size ≤ gb466)); clear HO0_1; clear HO1; clear HB; have HO0_1 := n0_; have HO1 := n1_; have HB := n2_; have BK466 := n3_; have GW466 := n4_; have GE466 := n5_; clear n0_ n1_ n2_ n3_ n4_ n5_; clear hb hbox hg; have hcz18_0 : w17.cell? ⟨gb466, 0, none⟩ = some (.int .i64 a0_0) := (blk_cell BK466.out 0).trans rfl; have hcz18_1 : w17.cell? ⟨gb466, 1, none⟩ = some (.slice A0_1 l0_1.length c0_1) := (blk_cell BK466.out 1).trans rfl; have hfz18_0 := blk_frozen BK466.out 0; have hfz18_1 := blk_frozen BK466.out 1) | ((with_reducible refine gate_dst (N := 9) rfl ?_); refine Kd.N_lit (Kd.slice 2 (Kd.int .i64)) _ 24 ?hg (N' := 9) ?hd (xs := ([l1] : List (List Int))) (inner := [.slice A1 l1.length c1]) (ok := (fun k_ => ((P0_1_ k_ ∨ P1_ k_) ∨ w.heap.size ≤ k_) ∧ k_ ≠ gb466)) (okp := (fun k_ => ((P0_1_ k_ ∨ P1_ k_) ∨ w.heap.size ≤ k_) ∧ k_ ≠ gb466)) ?hr ?hp (fun _ hk => hk) ((show ∀ k_ : Nat, (_ : Nat) ≤ k_ → (fun k_ => ((P0_1_ k_ ∨ P1_ k_) ∨ w.heap.size ≤ k_) ∧ k_ ≠ gb466) k_ from fun k_ hk => ⟨(.inr (Nat.le_trans (below_size (zT HB.out GE466.out)) hk)), Kd.freshB (g := gb466) (o := .cells #[.int .i64 a0_0, .slice A0_1 l0_1.length c0_1] 26 (0, 0)) (zR BK466.out) k_ hk⟩) _ (Nat.le_refl _)) (Below.refl _ _) (Nat.le_refl _) (by simp) ?_; (case hd => rfl); (case hg => rfl); (case hr => first | (go_simp; done) | (go_simp; rfl)); (case hp => exact (Reps.one (show Kd.FK (Kd.slice 2 (Kd.int .i64)) _ _ l1 [.slice A1 l1.length c1] from (Kd.FK_slice_mk (Kd.V_reads' (Kd.V_mono (ok' := (fun k_ => ((P0_1_ k_ ∨ P1_ k_) ∨ w.heap.size ≤ k_) ∧ k_ ≠ gb466)) (HO1.out) (fun k_ hk => ⟨hk.1, hk.2⟩))).2.1 (Kd.V_F (Kd.V_mono (ok' := (fun k_ => ((P0_1_ k_ ∨ P1_ k_) ∨ w.heap.size ≤ k_) ∧ k_ ≠ gb466)) (HO1.out) (fun k_ hk => ⟨hk.1, hk.2⟩))))) (Reps.none _ _))); intro v468 w19 ho20 hb hg_ hnew_; clear hg_ hnew_; (first | rw [← Ny467.out] at ho20 | (simp only [Int.reduceToNat] at ho20; rw [← Ny467.out] at ho20)); have n0_ := zA (Kd.V_elder' (by (with_reducible repeat (first | apply Kd.V_alloc | apply Kd.V_drewN | apply Kd.V_drew)); exact HO0_1.out) (Kd.N_base ho20) hb); have n1_ := zA (Kd.V_elder' (by (with_reducible repeat (first | apply Kd.V_alloc | apply Kd.V_drewN | apply Kd.V_drew)); exact HO1.out) (Kd.N_base ho20) hb); have n2_ := zA (Kd.N_lower ho20 (below_size (zT HB.out GE466.out))); have n3_ := zA (blk_below (g := gb466) (o := .cells #[.int .i64 a0_0, .slice A0_1 l0_1.length c0_1] 26 (0, 0)) (zR BK466.out) hb); have n4_ := zA (below_step (zT HB.out GE466.out) hb); clear HO0_1; clear HO1; clear BK466; clear HB; have HO0_1 := n0_; have HO1 := n1_; have HO469 := n2_; have BK466 := n3_; have HB := n4_; clear n0_ n1_ n2_ n3_ n4_; clear hb ho20; obtain ⟨Ao21, co21, eo21⟩ := Kd.N_slice HO469.out; subst eo21) | ((with_reducible refine gate_callee (f := 49) rfl ?_); refine zO (some 10) Tryd.func49 #[.agg #[.int .i64 a0_0, .slice A0_1 l0_1.length c0_1], .slice Ao21 y467.length co21] ?_; (with_reducible refine (impl_checkWords.calls k a0_0 _ _ l0_1 _ _ y467 t470 _ ?side1 ?side2 ?side3 ?side4 ?side5 A3.out).mono ?_); (case side1 => exact zS (Kd.V_reads' HO0_1.out).2.2); (case side2 => exact (Kd.V_reads' HO0_1.out).2.1); (case side3 => exact zS (Kd.N_reads' HO469.out).2.2); (case side4 => exact (Kd.N_reads' HO469.out).2.1); (case side5 => exact TabW.below HT.out (zT HB.out GE466.out)); rintro e w22 ⟨rfl, hb⟩; refine ⟨_, rfl, ?_⟩; have n0_ := zA (Kd.V_below (by (with_reducible repeat (first | apply Kd.V_alloc | apply Kd.V_drewN | apply Kd.V_drew)); exact HO0_1.out) hb); have n1_ := zA (Kd.V_below (by (with_reducible repeat (first | apply Kd.V_alloc | apply Kd.V_drewN | apply Kd.V_drew)); exact HO1.out) hb); have n2_ := zA (Kd.N_below (by (with_reducible repeat (first | apply Kd.N_alloc | apply Kd.N_drewN | apply Kd.N_drew)); exact HO469.out) hb); have n3_ := zA (blk_below (g := gb466) (o := .cells #[.int .i64 a0_0, .slice A0_1 l0_1.length c0_1] 26 (0, 0)) (zR BK466.out) hb); have n4_ := zA (below_step (zT HB.out GE466.out) hb); clear HO0_1; clear HO1; clear HO469; clear BK466; clear HB; have HO0_1 := n0_; have HO1 := n1_; have HO469 := n2_; have BK466 := n3_; have HB := n4_; clear n0_ n1_ n2_ n3_ n4_; (try clear hb)))
 go_ret2
 exact ⟨by first | rfl | (simp [errW_none, errW_some] <;> rfl) | (simp [*, errW_none, errW_some] <;> rfl), by repeat (first | (with_reducible first | exact HB.out | apply zB | apply zC | apply zD | refine zE ?_ GE466.out) | exact HB.out)⟩

/-! ### laws_FnFirstLetters: function 3 -/
mutual
def laws_FnFirstLetters.j0 : Nat → List Int → Int → Int → Bool → Int → List Int → Option (Bool)
 | 0, _, _, _, _, _, _ => none
 | k + 1, x4, x5, x6, x46, x502000, x502001 => if x46 = true then (none) else (if x6 = 0 then ((impl_FoataForm.f k x502000 x502001 x4).bind fun bt506 => ((impl_ReverseOf.f k x502000 x502001 x4).bind fun bt510 => ((impl_LastLetters.f k x502000 x502001 x4).bind fun bt514 => ((impl_FirstLetters.f k x502000 x502001 bt510.1).bind fun bt516 => (if bt506.2 = 0 then (if bt510.2 = 0 then (if bt514.2 = 0 then (if bt516.2 = 0 then (laws_FnFirstLetters.j1 k x4 x5 bt506.1 (bt514.1 != bt516.1) x502000 x502001) else (laws_FnFirstLetters.j1 k x4 x5 bt506.1 true x502000 x502001)) else (laws_FnFirstLetters.j1 k x4 x5 bt506.1 true x502000 x502001)) else (laws_FnFirstLetters.j1 k x4 x5 bt506.1 true x502000 x502001)) else (laws_FnFirstLetters.j1 k x4 x5 bt506.1 true x502000 x502001)))))) else (some true))
def laws_FnFirstLetters.j1 : Nat → List Int → Int → List Int → Bool → Int → List Int → Option (Bool)
 | 0, _, _, _, _, _, _ => none
 | k + 1, x4, x5, x9, x91, x502000, x502001 => if x91 = true then (none) else (if (x9.length : Int) = 0 then (if x5 = 0 then (if (x9.length : Int) > 0 then (if 0 < (x9.length : Int) then (laws_FnFirstLetters.j2 k x4 x5 (x5 != (rd x9 0)) x502000 x502001) else (none)) else (laws_FnFirstLetters.j2 k x4 x5 false x502000 x502001)) else (laws_FnFirstLetters.j2 k x4 x5 true x502000 x502001)) else (if (x9.length : Int) > 0 then (if 0 < (x9.length : Int) then (laws_FnFirstLetters.j2 k x4 x5 (x5 != (rd x9 0)) x502000 x502001) else (none)) else (laws_FnFirstLetters.j2 k x4 x5 false x502000 x502001)))
def laws_FnFirstLetters.j2 : Nat → List Int → Int → Bool → Int → List Int → Option (Bool)
 | 0, _, _, _, _, _ => none
 | k + 1, x4, x5, x110, x502000, x502001 => if x110 = true then (none) else (laws_FnFirstLetters.l0 k x4 x5 0 x502000 x502001)
def laws_FnFirstLetters.l0 : Nat → List Int → Int → Int → Int → List Int → Option (Bool)
 | 0, _, _, _, _, _ => none
 | k + 1, x4, x5, x17, x502000, x502001 => if x17 < x502000 then ((impl_IsPrefix.f k x502000 x502001 (([x17] : List Int)) x4).bind fun bt523 => (if bt523.2 = 0 then (if 0 ≤ (IntKind.u64.wrap (x17)) then (if (bt523.1 != ((Go.bits .and .i64 (shr .i64 x5 (IntKind.u64.wrap (x17))) 1) == 1)) = true then (none) else (laws_FnFirstLetters.l0 k x4 x5 (wrap64 (x17 + 1)) x502000 x502001)) else (none)) else (none))) else (some true)
end
def laws_FnFirstLetters.f (k : Nat) (l0 : List Int) : Option (Bool) := (laws_big.f l0).bind fun t493 => (if t493 = true then (some true) else ((spec_DrawFirstLetters.f k l0).bind fun bt494 => ((impl_FirstLetters.f k bt494.1 bt494.2.1 bt494.2.2).bind fun bt502 => ((spec_FirstLetters.f k bt494.1 bt494.2.1 bt494.2.2).bind fun bt504 => (if bt502.2 = bt504.2 then (laws_FnFirstLetters.j0 k bt494.2.2 bt502.1 bt502.2 (bt502.1 != bt504.1) bt494.1 bt494.2.1) else (laws_FnFirstLetters.j0 k bt494.2.2 bt502.1 bt502.2 true bt494.1 bt494.2.1))))))

set_option maxHeartbeats 8000000 in
set_option maxRecDepth 100000 in
theorem laws_FnFirstLetters.calls (k : Nat) (A0 : Option Addr) (c0 : Nat) (l0 : List Int) (r : Bool) (w : World) (hr0 : Kd.C (Kd.int .u8) w A0 l0.length l0) (hc0 : l0.length ≤ c0) (hT : TabW w) (h : laws_FnFirstLetters.f k l0 = some r) :
  Calls Tryd.prog 3 #[.slice A0 l0.length c0] w fun e w' => e = .returned (.bool r) ∧ Below w.heap.size w w' := by
 have hu26 := Tryd.underlying26
 have HT := zA hT
 clear hT
 have HR0 := zA hr0
 have HC0 := zA hc0
 clear hr0 hc0
 have HB := zA (Below.refl w.heap.size w)
 have H : ((laws_big.f l0).bind fun t493 => (if t493 = true then (some true) else ((spec_DrawFirstLetters.f k l0).bind fun bt494 => ((impl_FirstLetters.f k bt494.1 bt494.2.1 bt494.2.2).bind fun bt502 => ((spec_FirstLetters.f k bt494.1 bt494.2.1 bt494.2.2).bind fun bt504 => (if bt502.2 = bt504.2 then (laws_FnFirstLetters.j0 k bt494.2.2 bt502.1 bt502.2 (bt502.1 != bt504.1) bt494.1 bt494.2.1) else (laws_FnFirstLetters.j0 k bt494.2.2 bt502.1 bt502.2 true bt494.1 bt494.2.1))))))) = some r := h
 clear h
 replace H := Option.bind_eq_some_iff.mp H
 obtain ⟨t493, A20, H⟩ := H
 replace H : (if t493 = true then (some true) else ((spec_DrawFirstLetters.f k l0).bind fun bt494 => ((impl_FirstLetters.f k bt494.1 bt494.2.1 bt494.2.2).bind fun bt502 => ((spec_FirstLetters.f k bt494.1 bt494.2.1 bt494.2.2).bind fun bt504 => (if bt502.2 = bt504.2 then (laws_FnFirstLetters.j0 k bt494.2.2 bt502.1 bt502.2 (bt502.1 != bt504.1) bt494.1 bt494.2.1) else (laws_FnFirstLetters.j0 k bt494.2.2 bt502.1 bt502.2 true bt494.1 bt494.2.1)))))) = some r := H
 have A2 := zA A20
 clear A20
 by_cases c3 : t493 = true
 ·subst c3
  have H1 : (some true) = some r := by rw [if_pos rfl] at H; exact H
  clear H
  have H := H1
  clear H1
  obtain rfl := Option.some.inj H
  go_enter Tryd.func3, Tryd.ntmps3
  go_wp2_with (first | ((with_reducible refine gate_callee (f := 9) rfl ?_); refine zO (some 21) Tryd.func9 #[.slice A0 l0.length c0] ?_; (with_reducible refine (laws_big.calls _ _ l0 true _ ?side1 ?side2 A2.out).mono ?_); (case side1 => exact zS HR0.out); (case side2 => exact HC0.out); rintro e w' ⟨rfl, ⟨nd, rfl⟩⟩; refine ⟨_, rfl, ?_⟩))
  go_ret
  exact ⟨by first | rfl | (simp [errW_none, errW_some] <;> rfl) | (simp [*, errW_none, errW_some] <;> rfl), by repeat (first | (with_reducible first | exact HB.out | apply zB | apply zC | apply zD) | exact HB.out)⟩
 replace c3 := Bool.eq_false_iff.mpr c3
 subst c3
 have H1 : ((spec_DrawFirstLetters.f k l0).bind fun bt494 => ((impl_FirstLetters.f k bt494.1 bt494.2.1 bt494.2.2).bind fun bt502 => ((spec_FirstLetters.f k bt494.1 bt494.2.1 bt494.2.2).bind fun bt504 => (if bt502.2 = bt504.2 then (laws_FnFirstLetters.j0 k bt494.2.2 bt502.1 bt502.2 (bt502.1 != bt504.1) bt494.1 bt494.2.1) else (laws_FnFirstLetters.j0 k bt494.2.2 bt502.1 bt502.2 true bt494.1 bt494.2.1))))) = some r := by rw [if_neg (show ¬ (false = true) by decide)] at H; exact H
 clear H
 have H := H1
 clear H1
 replace H := Option.bind_eq_some_iff.mp H
 obtain ⟨⟨t494, t495, t498⟩, A40, H⟩ := H
 replace H : ((impl_FirstLetters.f k t494 t495 t498).bind fun bt502 => ((spec_FirstLetters.f k t494 t495 t498).bind fun bt504 => (if bt502.2 = bt504.2 then (laws_FnFirstLetters.j0 k t498 bt502.1 bt502.2 (bt502.1 != bt504.1) t494 t495) else (laws_FnFirstLetters.j0 k t498 bt502.1 bt502.2 true t494 t495)))) = some r := H
 have A4 := zA A40
 clear A40
 replace H := Option.bind_eq_some_iff.mp H
 obtain ⟨⟨t502, t503⟩, A50, H⟩ := H
 replace H : ((spec_FirstLetters.f k t494 t495 t498).bind fun bt504 => (if t503 = bt504.2 then (laws_FnFirstLetters.j0 k t498 t502 t503 (t502 != bt504.1) t494 t495) else (laws_FnFirstLetters.j0 k t498 t502 t503 true t494 t495))) = some r := H
 have A5 := zA A50
 clear A50
 replace H := Option.bind_eq_some_iff.mp H
 obtain ⟨⟨t504, t505⟩, A60, H⟩ := H
 replace H : (if t503 = t505 then (laws_FnFirstLetters.j0 k t498 t502 t503 (t502 != t504) t494 t495) else (laws_FnFirstLetters.j0 k t498 t502 t503 true t494 t495)) = some r := H
 have A6 := zA A60
 clear A60
 have HC7 := zA H
 clear H
 go_enter Tryd.func3, Tryd.ntmps3
 go_upto_region 6 with (first | ((with_reducible refine gate_callee (f := 9) rfl ?_); refine zO (some 21) Tryd.func9 #[.slice A0 l0.length c0] ?_; (with_reducible refine (laws_big.calls _ _ l0 false _ ?side1 ?side2 A2.out).mono ?_); (case side1 => exact zS HR0.out); (case side2 => exact HC0.out); rintro e w' ⟨rfl, ⟨nd, rfl⟩⟩; refine ⟨_, rfl, ?_⟩) | ((with_reducible refine gate_callee (f := 10) rfl ?_); refine zO (some 24) Tryd.func10 #[.slice A0 l0.length c0] ?_; (with_reducible refine (spec_DrawFirstLetters.calls k _ _ l0 t494 t495 t498 _ ?side1 ?side2 A4.out).mono ?_); (case side1 => exact zS HR0.out); (case side2 => exact HC0.out); rintro e w8 ⟨v496, v499, rfl, ho0, ho1, hb⟩; refine ⟨_, rfl, ?_⟩; have n0_ := zA (Kd.R_lower ho0 (below_size (zQ HB.out))); have n1_ := zA (Kd.R_lower ho1 (below_size (zQ HB.out))); have n2_ := zA (below_step (zQ HB.out) hb); clear HB; have HO497 := n0_; have HO500 := n1_; have HB := n2_; clear n0_ n1_ n2_; (try clear hb); (try clear ho0); (try clear ho1)) | ((with_reducible refine gate_dst (N := 3) rfl ?_); refine box_event ?hg (N := 3) ?hd (cs := #[.int .i64 0, .slice none 0 0]) (t := 26) ?hr ?_; (case hd => rfl); (case hg => rfl); (case hr => first | (go_simp; done) | (go_simp; rfl)); intro gb501 hg w9 hbox hb; have n0_ := zA (Kd.R_below (zP HO497.out) hb); have n1_ := zA (Kd.R_below (zP HO500.out) hb); have n2_ := zA (below_step (zQ HB.out) hb); have n3_ := zA (hbox); have n4_ := zA ((by rw [hg]; exact (below_size (zQ HB.out)) : w.heap.size ≤ gb501)); have n5_ := zA ((by rw [hg]; exact (below_size (zQ HB.out)) : w.heap.size ≤ gb501)); clear HO497; clear HO500; clear HB; have HO497 := n0_; have HO500 := n1_; have HB := n2_; have BK501 := n3_; have GW501 := n4_; have GE501 := n5_; clear n0_ n1_ n2_ n3_ n4_ n5_; clear hb hbox hg; have hcz10_0 : w9.cell? ⟨gb501, 0, none⟩ = some (.int .i64 0) := (blk_cell BK501.out 0).trans rfl; have hcz10_1 : w9.cell? ⟨gb501, 1, none⟩ = some (.slice none 0 0) := (blk_cell BK501.out 1).trans rfl; have hfz10_0 := blk_frozen BK501.out 0; have hfz10_1 := blk_frozen BK501.out 1; obtain ⟨Ao11, co11, eo11⟩ := Kd.R_slice HO497.out; subst eo11) | ((with_reducible refine gate_store (t := 26) (p := 3) rfl ?_); refine store_event (t := 26) (p := 3) (v := ?vo_w12) (w1 := ((w9.setCell ⟨gb501, 0, none⟩ (.int .i64 t494)).setCell ⟨gb501, 1, none⟩ (.slice Ao11 t495.length co11))) ?hg ?ho ?hn ?hr ?_; (case ho => rfl); (case hg => rfl); (case hn => rfl); (case hr => first | (go_simp; done) | (go_simp; rfl)); intro w12 hw; have n0_ : Aside0 (Kd.R (Kd.int .i64) 2 w12 w.heap.size (fun k_ => some k_ ≠ (v499 : Value).ownBlock) (.slice Ao11 t495.length co11) t495) := ⟨(by rw [hw]; exact (by (with_reducible repeat (first | apply zF | apply zG | apply zH)); exact Kd.R_mono (Kd.R_far (p := ⟨gb501, 1, none⟩) (Kd.R_far (p := ⟨gb501, 0, none⟩) (Kd.R_types HO497.out BK501.out (by decide)) (fun _ hk => hk.2) (.int .i64 t494)) (fun _ hk => hk.2) (.slice Ao11 t495.length co11)) (fun _ hk => hk.1)))⟩; have n1_ : Aside0 (Kd.R (Kd.int .i64) 2 w12 w.heap.size (fun k_ => some k_ ≠ (.slice Ao11 t495.length co11 : Value).ownBlock) v499 t498) := ⟨(by rw [hw]; exact (by (with_reducible repeat (first | apply zF | apply zG | apply zH)); exact Kd.R_mono (Kd.R_far (p := ⟨gb501, 1, none⟩) (Kd.R_far (p := ⟨gb501, 0, none⟩) (Kd.R_types HO500.out BK501.out (by decide)) (fun _ hk => hk.2) (.int .i64 t494)) (fun _ hk => hk.2) (.slice Ao11 t495.length co11)) (fun _ hk => hk.1)))⟩; have n2_ : Aside0 (w12.heap[gb501]? = some (.cells #[.int .i64 t494, .slice Ao11 t495.length co11] 26 (0, 0))) := ⟨(by rw [hw]; exact (by (with_reducible repeat (first | refine zJ ?_ _ | refine zK ?_ | refine zI ?_ _)); refine blk_put (cs := #[.int .i64 t494, .slice none 0 0]) ?_ 1 _ rfl; (with_reducible repeat (first | refine zJ ?_ _ | refine zK ?_ | refine zI ?_ _)); refine blk_put (cs := #[.int .i64 0, .slice none 0 0]) ?_ 0 _ rfl; (with_reducible repeat (first | refine zJ ?_ _ | refine zK ?_ | refine zI ?_ _)); exact BK501.out))⟩; have n3_ : Aside0 (Below w.heap.size w w12) := ⟨(by rw [hw]; exact (zT HB.out GE501.out))⟩; clear hw; clear HO497; clear HO500; clear BK501; clear HB; have HO497 := n0_; have HO500 := n1_; have BK501 := n2_; have HB := n3_; clear n0_ n1_ n2_ n3_; have hcz13_0 : w12.cell? ⟨gb501, 0, none⟩ = some (.int .i64 t494) := (blk_cell BK501.out 0).trans rfl; have hcz13_1 : w12.cell? ⟨gb501, 1, none⟩ = some (.slice Ao11 t495.length co11) := (blk_cell BK501.out 1).trans rfl; have hfz13_0 := blk_frozen BK501.out 0; have hfz13_1 := blk_frozen BK501.out 1; obtain ⟨Ao14, co14, eo14⟩ := Kd.R_slice HO500.out; subst eo14) | ((with_reducible refine gate_callee (f := 11) rfl ?_); refine zO (some 30) Tryd.func11 #[.agg #[.int .i64 t494, .slice Ao11 t495.length co11], .slice Ao14 t498.length co14] ?_; (with_reducible refine (impl_FirstLetters.calls k t494 (fun k_ => some k_ = (.slice Ao11 t495.length co11 : Value).ownBlock) _ _ t495 (fun k_ => some k_ = (.slice Ao14 t498.length co14 : Value).ownBlock) _ _ t498 t502 t503 _ ?side1 ?side2 ?side3 A5.out).mono ?_); (case side1 => exact Kd.R_V (Kd.R_tight rfl (Kd.R_types (HO497.out) BK501.out (by decide)))); (case side2 => exact Kd.R_V (Kd.R_tight rfl (Kd.R_types (HO500.out) BK501.out (by decide)))); (case side3 => exact TabW.below HT.out (zT HB.out GE501.out)); rintro e w15 ⟨rfl, hb⟩; refine ⟨_, rfl, ?_⟩; have n0_ := zA (Kd.R_below (zP HO497.out) hb); have n1_ := zA (Kd.R_below (zP HO500.out) hb); have n2_ := zA (blk_below (g := gb501) (o := .cells #[.int .i64 t494, .slice Ao11 t495.length co11] 26 (0, 0)) (zR BK501.out) hb); have n3_ := zA (below_step (zT HB.out GE501.out) hb); clear HO497; clear HO500; clear BK501; clear HB; have HO497 := n0_; have HO500 := n1_; have BK501 := n2_; have HB := n3_; clear n0_ n1_ n2_ n3_; (try clear hb); have hcz16_0 : w15.cell? ⟨gb501, 0, none⟩ = some (.int .i64 t494) := (blk_cell BK501.out 0).trans rfl; have hcz16_1 : w15.cell? ⟨gb501, 1, none⟩ = some (.slice Ao11 t495.length co11) := (blk_cell BK501.out 1).trans rfl; have hfz16_0 := blk_frozen BK501.out 0; have hfz16_1 := blk_frozen BK501.out 1) | ((with_reducible refine gate_callee (f := 12) rfl ?_); refine zO (some 36) Tryd.func12 #[.agg #[.int .i64 t494, .slice Ao11 t495.length co11], .slice Ao14 t498.length co14] ?_; (with_reducible refine (spec_FirstLetters.calls k t494 _ _ t495 _ _ t498 t504 t505 _ ?side1 ?side2 ?side3 ?side4 A6.out).mono ?_); (case side1 => exact zS (Kd.R_reads' HO497.out).2.2); (case side2 => exact (Kd.R_reads' HO497.out).2.1); (case side3 => exact zS (Kd.R_reads' HO500.out).2.2); (case side4 => exact (Kd.R_reads' HO500.out).2.1); rintro e w17 ⟨rfl, hb⟩; refine ⟨_, rfl, ?_⟩; have n0_ := zA (Kd.R_below (zP HO497.out) hb); have n1_ := zA (Kd.R_below (zP HO500.out) hb); have n2_ := zA (blk_below (g := gb501) (o := .cells #[.int .i64 t494, .slice Ao11 t495.length co11] 26 (0, 0)) (zR BK501.out) hb); have n3_ := zA (below_step (zT HB.out GE501.out) hb); clear HO497; clear HO500; clear BK501; clear HB; have HO497 := n0_; have HO500 := n1_; have BK501 := n2_; have HB := n3_; clear n0_ n1_ n2_ n3_; (try clear hb)))
 (try simp only [Act.put, zL, zM, zN])
 go_cut [46] (fun v46 wc => ∃ (kq : Nat) (x46_6 : Bool), v46 = .bool x46_6 ∧ Aside0 (laws_FnFirstLetters.j0 kq t498 t502 t503 x46_6 t494 t495 = some r) ∧ Aside0 (kq ≤ k) ∧ Aside0 (Kd.R (Kd.int .i64) 2 wc w.heap.size (fun k_ => some k_ ≠ ((.slice Ao11 t495.length co11) : Value).ownBlock) (.slice Ao14 t498.length co14) t498) ∧ Aside0 (Kd.R (Kd.int .i64) 2 wc w.heap.size (fun k_ => some k_ ≠ ((.slice Ao14 t498.length co14) : Value).ownBlock) (.slice Ao11 t495.length co11) t495) ∧ Aside0 (wc.heap[gb501]? = some (.cells #[.int .i64 t494, (.slice Ao11 t495.length co11)] 26 (0, 0))) ∧ Aside0 (Below w.heap.size w wc))
 case first =>
  have H := HC7.out
  clear HC7
  by_cases c18 : t503 = t505
  ·rw [if_pos c18] at H
   have c18b0 : (t503 == t505) = true := beq_iff_eq.mpr c18
   have c18b1 : (t503 != t505) = false := bne_eq_false_iff_eq.mpr c18
   clear c18
   (first | rw [c18b0] | (simp only [i64_w, i32_w]; rw [c18b0]) | skip)
   have H' := zA H
   clear H
   go_wp2
   go_meet
   case rel => exact ⟨_, ((t502 != t504)), (by first | rfl | (simp; done) | (simp [*]; done)), H', ⟨by first | omega | exact Nat.le_refl _⟩, ⟨by (with_reducible repeat (first | apply zF | apply zG | apply zH)); exact HO500.out⟩, ⟨by (with_reducible repeat (first | apply zF | apply zG | apply zH)); exact HO497.out⟩, ⟨by (with_reducible repeat (first | refine zJ ?_ _ | refine zK ?_ | refine zI ?_ _)); exact BK501.out⟩, ⟨zT HB.out GE501.out⟩⟩
  rw [if_neg c18] at H
  have c18b0 : (t503 == t505) = false := beq_eq_false_iff_ne.mpr c18
  have c18b1 : (t503 != t505) = true := bne_iff_ne.mpr c18
  (first | rw [c18b0] | (simp only [i64_w, i32_w]; rw [c18b0]) | skip)
  have H' := zA H
  clear H
  go_wp2
  go_meet
  case rel => exact ⟨_, (true), (by first | rfl | (simp; done) | (simp [*]; done)), H', ⟨by first | omega | exact Nat.le_refl _⟩, ⟨by (with_reducible repeat (first | apply zF | apply zG | apply zH)); exact HO500.out⟩, ⟨by (with_reducible repeat (first | apply zF | apply zG | apply zH)); exact HO497.out⟩, ⟨by (with_reducible repeat (first | refine zJ ?_ _ | refine zK ?_ | refine zI ?_ _)); exact BK501.out⟩, ⟨zT HB.out GE501.out⟩⟩
 case rest =>
  clear HC7
  try clear c1
  try clear p2
  try clear c3
  try clear c9
  try clear c10
  try clear c11
  try clear c12
  try clear c18
  try clear c18b0
  try clear c18b1
  try clear hcz10_0
  try clear hcz10_1
  try clear hcz13_0
  try clear hcz13_1
  try clear hcz16_0
  try clear hcz16_1
  try clear hfz10_0
  try clear hfz10_1
  try clear hfz13_0
  try clear hfz13_1
  try clear hfz16_0
  try clear hfz16_1
  obtain ⟨kq, x46_6, rfl, HA, HJ6, HO_4, HO_502001, BK501, HB⟩ := hcut
  cases kq with
  | zero => exact absurd HA.out (by simp [laws_FnFirstLetters.j0])
  | succ kj6 =>
   have H := HA.out
   clear HA
   simp only [laws_FnFirstLetters.j0] at H
   by_cases c19 : x46_6 = true
   ·subst c19
    have H1 : (none) = some r := by rw [if_pos rfl] at H; exact H
    clear H
    have H := H1
    clear H1
    exact absurd H (by simp)
   replace c19 := Bool.eq_false_iff.mpr c19
   subst c19
   have H1 : (if t503 = 0 then ((impl_FoataForm.f kj6 t494 t495 t498).bind fun bt506 => ((impl_ReverseOf.f kj6 t494 t495 t498).bind fun bt510 => ((impl_LastLetters.f kj6 t494 t495 t498).bind fun bt514 => ((impl_FirstLetters.f kj6 t494 t495 bt510.1).bind fun bt516 => (if bt506.2 = 0 then (if bt510.2 = 0 then (if bt514.2 = 0 then (if bt516.2 = 0 then (laws_FnFirstLetters.j1 kj6 t498 t502 bt506.1 (bt514.1 != bt516.1) t494 t495) else (laws_FnFirstLetters.j1 kj6 t498 t502 bt506.1 true t494 t495)) else (laws_FnFirstLetters.j1 kj6 t498 t502 bt506.1 true t494 t495)) else (laws_FnFirstLetters.j1 kj6 t498 t502 bt506.1 true t494 t495)) else (laws_FnFirstLetters.j1 kj6 t498 t502 bt506.1 true t494 t495)))))) else (some true)) = some r := by rw [if_neg (show ¬ (false = true) by decide)] at H; exact H
   clear H
   have H := H1
   clear H1
   by_cases c20 : t503 = 0
   ·rw [if_pos c20] at H
    have c20b0 : (t503 == 0) = true := beq_iff_eq.mpr c20
    have c20b1 : (t503 != 0) = false := bne_eq_false_iff_eq.mpr c20
    clear c20
    replace H := Option.bind_eq_some_iff.mp H
    obtain ⟨⟨t506, t509⟩, A210, H⟩ := H
    replace H : ((impl_ReverseOf.f kj6 t494 t495 t498).bind fun bt510 => ((impl_LastLetters.f kj6 t494 t495 t498).bind fun bt514 => ((impl_FirstLetters.f kj6 t494 t495 bt510.1).bind fun bt516 => (if t509 = 0 then (if bt510.2 = 0 then (if bt514.2 = 0 then (if bt516.2 = 0 then (laws_FnFirstLetters.j1 kj6 t498 t502 t506 (bt514.1 != bt516.1) t494 t495) else (laws_FnFirstLetters.j1 kj6 t498 t502 t506 true t494 t495)) else (laws_FnFirstLetters.j1 kj6 t498 t502 t506 true t494 t495)) else (laws_FnFirstLetters.j1 kj6 t498 t502 t506 true t494 t495)) else (laws_FnFirstLetters.j1 kj6 t498 t502 t506 true t494 t495))))) = some r := H
    have A21 := zA A210
    clear A210
    replace H := Option.bind_eq_some_iff.mp H
    obtain ⟨⟨t510, t513⟩, A220, H⟩ := H
    replace H : ((impl_LastLetters.f kj6 t494 t495 t498).bind fun bt514 => ((impl_FirstLetters.f kj6 t494 t495 t510).bind fun bt516 => (if t509 = 0 then (if t513 = 0 then (if bt514.2 = 0 then (if bt516.2 = 0 then (laws_FnFirstLetters.j1 kj6 t498 t502 t506 (bt514.1 != bt516.1) t494 t495) else (laws_FnFirstLetters.j1 kj6 t498 t502 t506 true t494 t495)) else (laws_FnFirstLetters.j1 kj6 t498 t502 t506 true t494 t495)) else (laws_FnFirstLetters.j1 kj6 t498 t502 t506 true t494 t495)) else (laws_FnFirstLetters.j1 kj6 t498 t502 t506 true t494 t495)))) = some r := H
    have A22 := zA A220
    clear A220
    replace H := Option.bind_eq_some_iff.mp H
    obtain ⟨⟨t514, t515⟩, A230, H⟩ := H
    replace H : ((impl_FirstLetters.f kj6 t494 t495 t510).bind fun bt516 => (if t509 = 0 then (if t513 = 0 then (if t515 = 0 then (if bt516.2 = 0 then (laws_FnFirstLetters.j1 kj6 t498 t502 t506 (t514 != bt516.1) t494 t495) else (laws_FnFirstLetters.j1 kj6 t498 t502 t506 true t494 t495)) else (laws_FnFirstLetters.j1 kj6 t498 t502 t506 true t494 t495)) else (laws_FnFirstLetters.j1 kj6 t498 t502 t506 true t494 t495)) else (laws_FnFirstLetters.j1 kj6 t498 t502 t506 true t494 t495))) = some r := H
    have A23 := zA A230
    clear A230
    replace H := Option.bind_eq_some_iff.mp H
    obtain ⟨⟨t516, t517⟩, A240, H⟩ := H
    replace H : (if t509 = 0 then (if t513 = 0 then (if t515 = 0 then (if t517 = 0 then (laws_FnFirstLetters.j1 kj6 t498 t502 t506 (t514 != t516) t494 t495) else (laws_FnFirstLetters.j1 kj6 t498 t502 t506 true t494 t495)) else (laws_FnFirstLetters.j1 kj6 t498 t502 t506 true t494 t495)) else (laws_FnFirstLetters.j1 kj6 t498 t502 t506 true t494 t495)) else (laws_FnFirstLetters.j1 kj6 t498 t502 t506 true t494 t495)) = some r := H
    have A24 := zA A240
    clear A240
    have HC25 := zA H
    clear H
    have hcz26_0 : wc.cell? ⟨gb501, 0, none⟩ = some (.int .i64 t494) := (blk_cell BK501.out 0).trans rfl
    have hcz26_1 : wc.cell? ⟨gb501, 1, none⟩ = some (.slice Ao11 t495.length co11) := (blk_cell BK501.out 1).trans rfl
    have hfz26_0 := blk_frozen BK501.out 0
    have hfz26_1 := blk_frozen BK501.out 1
    go_upto_region 14 with (first | ((with_reducible refine gate_callee (f := 13) rfl ?_); refine zO (some 52) Tryd.func13 #[.agg #[.int .i64 t494, .slice Ao11 t495.length co11], .slice Ao14 t498.length co14] ?_; (with_reducible refine (impl_FoataForm.calls kj6 t494 (fun k_ => some k_ = (.slice Ao11 t495.length co11 : Value).ownBlock) _ _ t495 (fun k_ => some k_ = (.slice Ao14 t498.length co14 : Value).ownBlock) _ _ t498 t506 t509 _ ?side1 ?side2 ?side3 A21.out).mono ?_); (case side1 => exact Kd.R_V (Kd.R_tight rfl (Kd.R_types (HO_502001.out) BK501.out (by decide)))); (case side2 => exact Kd.R_V (Kd.R_tight rfl (Kd.R_types (HO_4.out) BK501.out (by decide)))); (case side3 => exact TabW.below HT.out (zT HB.out GE501.out)); rintro e w27 ⟨v507, rfl, ho0, hb⟩; refine ⟨_, rfl, ?_⟩; have n0_ := zA (Kd.R_elder' (zP HO_4.out) (Kd.R_base ho0) hb); have n1_ := zA (Kd.R_elder' (zP HO_502001.out) (Kd.R_base ho0) hb); have n2_ := zA (Kd.R_lower (Kd.R_new' (Kd.R_new' (Kd.R_mono (ok' := fun k_ => True) ho0 (fun _ hk_ => trivial)) (Kd.R_lt (zP HO_4.out))) (Kd.R_lt (zP HO_502001.out))) (below_size (zT HB.out GE501.out))); have n3_ := zA (blk_below (g := gb501) (o := .cells #[.int .i64 t494, .slice Ao11 t495.length co11] 26 (0, 0)) (zR BK501.out) hb); have n4_ := zA (below_step (zT HB.out GE501.out) hb); clear HO_4; clear HO_502001; clear BK501; clear HB; have HO_4 := n0_; have HO_502001 := n1_; have HO508 := n2_; have BK501 := n3_; have HB := n4_; clear n0_ n1_ n2_ n3_ n4_; (try clear hb); (try clear ho0); have hcz28_0 : w27.cell? ⟨gb501, 0, none⟩ = some (.int .i64 t494) := (blk_cell BK501.out 0).trans rfl; have hcz28_1 : w27.cell? ⟨gb501, 1, none⟩ = some (.slice Ao11 t495.length co11) := (blk_cell BK501.out 1).trans rfl; have hfz28_0 := blk_frozen BK501.out 0; have hfz28_1 := blk_frozen BK501.out 1) | ((with_reducible refine gate_callee (f := 14) rfl ?_); refine zO (some 58) Tryd.func14 #[.agg #[.int .i64 t494, .slice Ao11 t495.length co11], .slice Ao14 t498.length co14] ?_; (with_reducible refine (impl_ReverseOf.calls kj6 t494 (fun k_ => some k_ = (.slice Ao11 t495.length co11 : Value).ownBlock) _ _ t495 (fun k_ => some k_ = (.slice Ao14 t498.length co14 : Value).ownBlock) _ _ t498 t510 t513 _ ?side1 ?side2 ?side3 A22.out).mono ?_); (case side1 => exact Kd.R_V (Kd.R_tight rfl (Kd.R_types (HO_502001.out) BK501.out (by decide)))); (case side2 => exact Kd.R_V (Kd.R_tight rfl (Kd.R_types (HO_4.out) BK501.out (by decide)))); (case side3 => exact TabW.below HT.out (zT HB.out GE501.out)); rintro e w29 ⟨v511, rfl, ho0, hb⟩; refine ⟨_, rfl, ?_⟩; have n0_ := zA (Kd.R_elder' (zP HO_4.out) (Kd.R_base ho0) hb); have n1_ := zA (Kd.R_elder' (zP HO_502001.out) (Kd.R_base ho0) hb); have n2_ := zA (Kd.R_elder' (zP HO508.out) (Kd.R_base ho0) hb); have n3_ := zA (Kd.R_lower (Kd.R_new' (Kd.R_new' (Kd.R_new' (Kd.R_mono (ok' := fun k_ => True) ho0 (fun _ hk_ => trivial)) (Kd.R_lt (zP HO_4.out))) (Kd.R_lt (zP HO_502001.out))) (Kd.R_lt (zP HO508.out))) (below_size (zT HB.out GE501.out))); have n4_ := zA (blk_below (g := gb501) (o := .cells #[.int .i64 t494, .slice Ao11 t495.length co11] 26 (0, 0)) (zR BK501.out) hb); have n5_ := zA (below_step (zT HB.out GE501.out) hb); clear HO_4; clear HO_502001; clear HO508; clear BK501; clear HB; have HO_4 := n0_; have HO_502001 := n1_; have HO508 := n2_; have HO512 := n3_; have BK501 := n4_; have HB := n5_; clear n0_ n1_ n2_ n3_ n4_ n5_; (try clear hb); (try clear ho0); have hcz30_0 : w29.cell? ⟨gb501, 0, none⟩ = some (.int .i64 t494) := (blk_cell BK501.out 0).trans rfl; have hcz30_1 : w29.cell? ⟨gb501, 1, none⟩ = some (.slice Ao11 t495.length co11) := (blk_cell BK501.out 1).trans rfl; have hfz30_0 := blk_frozen BK501.out 0; have hfz30_1 := blk_frozen BK501.out 1) | ((with_reducible refine gate_callee (f := 15) rfl ?_); refine zO (some 64) Tryd.func15 #[.agg #[.int .i64 t494, .slice Ao11 t495.length co11], .slice Ao14 t498.length co14] ?_; (with_reducible refine (impl_LastLetters.calls kj6 t494 (fun k_ => some k_ = (.slice Ao11 t495.length co11 : Value).ownBlock) _ _ t495 (fun k_ => some k_ = (.slice Ao14 t498.length co14 : Value).ownBlock) _ _ t498 t514 t515 _ ?side1 ?side2 ?side3 A23.out).mono ?_); (case side1 => exact Kd.R_V (Kd.R_tight rfl (Kd.R_types (HO_502001.out) BK501.out (by decide)))); (case side2 => exact Kd.R_V (Kd.R_tight rfl (Kd.R_types (HO_4.out) BK501.out (by decide)))); (case side3 => exact TabW.below HT.out (zT HB.out GE501.out)); rintro e w31 ⟨rfl, hb⟩; refine ⟨_, rfl, ?_⟩; have n0_ := zA (Kd.R_below (zP HO_4.out) hb); have n1_ := zA (Kd.R_below (zP HO_502001.out) hb); have n2_ := zA (Kd.R_below (zP HO508.out) hb); have n3_ := zA (Kd.R_below (zP HO512.out) hb); have n4_ := zA (blk_below (g := gb501) (o := .cells #[.int .i64 t494, .slice Ao11 t495.length co11] 26 (0, 0)) (zR BK501.out) hb); have n5_ := zA (below_step (zT HB.out GE501.out) hb); clear HO_4; clear HO_502001; clear HO508; clear HO512; clear BK501; clear HB; have HO_4 := n0_; have HO_502001 := n1_; have HO508 := n2_; have HO512 := n3_; have BK501 := n4_; have HB := n5_; clear n0_ n1_ n2_ n3_ n4_ n5_; (try clear hb); have hcz32_0 : w31.cell? ⟨gb501, 0, none⟩ = some (.int .i64 t494) := (blk_cell BK501.out 0).trans rfl; have hcz32_1 : w31.cell? ⟨gb501, 1, none⟩ = some (.slice Ao11 t495.length co11) := (blk_cell BK501.out 1).trans rfl; have hfz32_0 := blk_frozen BK501.out 0; have hfz32_1 := blk_frozen BK501.out 1; obtain ⟨Ao33, co33, eo33⟩ := Kd.R_slice HO512.out; subst eo33) | ((with_reducible refine gate_callee (f := 11) rfl ?_); refine zO (some 70) Tryd.func11 #[.agg #[.int .i64 t494, .slice Ao11 t495.length co11], .slice Ao33 t510.length co33] ?_; (with_reducible refine (impl_FirstLetters.calls kj6 t494 (fun k_ => some k_ = (.slice Ao11 t495.length co11 : Value).ownBlock) _ _ t495 (fun k_ => some k_ = (.slice Ao33 t510.length co33 : Value).ownBlock) _ _ t510 t516 t517 _ ?side1 ?side2 ?side3 A24.out).mono ?_); (case side1 => exact Kd.R_V (Kd.R_tight rfl (Kd.R_types (HO_502001.out) BK501.out (by decide)))); (case side2 => exact Kd.R_V (Kd.R_tight rfl (Kd.R_types (HO512.out) BK501.out (by decide)))); (case side3 => exact TabW.below HT.out (zT HB.out GE501.out)); rintro e w34 ⟨rfl, hb⟩; refine ⟨_, rfl, ?_⟩; have n0_ := zA (Kd.R_below (zP HO_4.out) hb); have n1_ := zA (Kd.R_below (zP HO_502001.out) hb); have n2_ := zA (Kd.R_below (zP HO508.out) hb); have n3_ := zA (Kd.R_below (zP HO512.out) hb); have n4_ := zA (blk_below (g := gb501) (o := .cells #[.int .i64 t494, .slice Ao11 t495.length co11] 26 (0, 0)) (zR BK501.out) hb); have n5_ := zA (below_step (zT HB.out GE501.out) hb); clear HO_4; clear HO_502001; clear HO508; clear HO512; clear BK501; clear HB; have HO_4 := n0_; have HO_502001 := n1_; have HO508 := n2_; have HO512 := n3_; have BK501 := n4_; have HB := n5_; clear n0_ n1_ n2_ n3_ n4_ n5_; (try clear hb)))
    (try simp only [Act.put, zL, zM, zN])
    go_cut [91] (fun v91 wc => ∃ (kq : Nat) (x91_24 : Bool), v91 = .bool x91_24 ∧ Aside0 (laws_FnFirstLetters.j1 kq t498 t502 t506 x91_24 t494 t495 = some r) ∧ Aside0 (kq ≤ kj6) ∧ Aside0 (Kd.R (Kd.int .i64) 2 wc w.heap.size (fun k_ => some k_ ≠ (v507 : Value).ownBlock ∧ some k_ ≠ ((.slice Ao11 t495.length co11) : Value).ownBlock) (.slice Ao14 t498.length co14) t498) ∧ Aside0 (Kd.R (Kd.int .i64) 2 wc w.heap.size (fun k_ => some k_ ≠ ((.slice Ao14 t498.length co14) : Value).ownBlock ∧ some k_ ≠ ((.slice Ao11 t495.length co11) : Value).ownBlock) v507 t506) ∧ Aside0 (Kd.R (Kd.int .i64) 2 wc w.heap.size (fun k_ => some k_ ≠ ((.slice Ao14 t498.length co14) : Value).ownBlock ∧ some k_ ≠ (v507 : Value).ownBlock) (.slice Ao11 t495.length co11) t495) ∧ Aside0 (wc.heap[gb501]? = some (.cells #[.int .i64 t494, (.slice Ao11 t495.length co11)] 26 (0, 0))) ∧ Aside0 (Below w.heap.size w wc))
    case first =>
     have H := HC25.out
     clear HC25
     by_cases c35 : t509 = 0
     ·rw [if_pos c35] at H
      have c35b0 : (t509 == 0) = true := beq_iff_eq.mpr c35
      have c35b1 : (t509 != 0) = false := bne_eq_false_iff_eq.mpr c35
      clear c35
      (first | rw [c35b0] | (simp only [i64_w, i32_w]; rw [c35b0]) | skip)
      by_cases c36 : t513 = 0
      ·rw [if_pos c36] at H
       have c36b0 : (t513 == 0) = true := beq_iff_eq.mpr c36
       have c36b1 : (t513 != 0) = false := bne_eq_false_iff_eq.mpr c36
       clear c36
       by_cases c37 : t515 = 0
       ·rw [if_pos c37] at H
        have c37b0 : (t515 == 0) = true := beq_iff_eq.mpr c37
        have c37b1 : (t515 != 0) = false := bne_eq_false_iff_eq.mpr c37
        clear c37
        by_cases c38 : t517 = 0
        ·rw [if_pos c38] at H
         have c38b0 : (t517 == 0) = true := beq_iff_eq.mpr c38
         have c38b1 : (t517 != 0) = false := bne_eq_false_iff_eq.mpr c38
         clear c38
         have H' := zA H
         clear H
         go_wp2
         go_meet
         case rel => exact ⟨_, ((t514 != t516)), (by first | rfl | (simp; done) | (simp [*]; done)), H', ⟨by have := HJ6.out; first | omega | exact Nat.le_refl _⟩, ⟨by (with_reducible repeat (first | apply zF | apply zG | apply zH)); exact Kd.R_mono HO_4.out (fun _ hk => ⟨hk.1.2, hk.1.1⟩)⟩, ⟨by (with_reducible repeat (first | apply zF | apply zG | apply zH)); exact Kd.R_mono HO508.out (fun _ hk => ⟨hk.1.1.2, hk.1.2⟩)⟩, ⟨by (with_reducible repeat (first | apply zF | apply zG | apply zH)); exact Kd.R_mono HO_502001.out (fun _ hk => ⟨hk.1.1, hk.1.2⟩)⟩, ⟨by (with_reducible repeat (first | refine zJ ?_ _ | refine zK ?_ | refine zI ?_ _)); exact BK501.out⟩, ⟨zT HB.out GE501.out⟩⟩
        rw [if_neg c38] at H
        have c38b0 : (t517 == 0) = false := beq_eq_false_iff_ne.mpr c38
        have c38b1 : (t517 != 0) = true := bne_iff_ne.mpr c38
        have H' := zA H
        clear H
        go_wp2
        go_meet
        case rel => exact ⟨_, (true), (by first | rfl | (simp; done) | (simp [*]; done)), H', ⟨by have := HJ6.out; first | omega | exact Nat.le_refl _⟩, ⟨by (with_reducible repeat (first | apply zF | apply zG | apply zH)); exact Kd.R_mono HO_4.out (fun _ hk => ⟨hk.1.2, hk.1.1⟩)⟩, ⟨by (with_reducible repeat (first | apply zF | apply zG | apply zH)); exact Kd.R_mono HO508.out (fun _ hk => ⟨hk.1.1.2, hk.1.2⟩)⟩, ⟨by (with_reducible repeat (first | apply zF | apply zG | apply zH)); exact Kd.R_mono HO_502001.out (fun _ hk => ⟨hk.1.1, hk.1.2⟩)⟩, ⟨by (with_reducible repeat (first | refine zJ ?_ _ | refine zK ?_ | refine zI ?_ _)); exact BK501.out⟩, ⟨zT HB.out GE501.out⟩⟩
       rw [if_neg c37] at H
       have c37b0 : (t515 == 0) = false := beq_eq_false_iff_ne.mpr c37
       have c37b1 : (t515 != 0) = true := bne_iff_ne.mpr c37
       have H' := zA H
       clear H
       go_wp2
       go_meet
       case rel => exact ⟨_, (true), (by first | rfl | (simp; done) | (simp [*]; done)), H', ⟨by have := HJ6.out; first | omega | exact Nat.le_refl _⟩, ⟨by (with_reducible repeat (first | apply zF | apply zG | apply zH)); exact Kd.R_mono HO_4.out (fun _ hk => ⟨hk.1.2, hk.1.1⟩)⟩, ⟨by (with_reducible repeat (first | apply zF | apply zG | apply zH)); exact Kd.R_mono HO508.out (fun _ hk => ⟨hk.1.1.2, hk.1.2⟩)⟩, ⟨by (with_reducible repeat (first | apply zF | apply zG | apply zH)); exact Kd.R_mono HO_502001.out (fun _ hk => ⟨hk.1.1, hk.1.2⟩)⟩, ⟨by (with_reducible repeat (first | refine zJ ?_ _ | refine zK ?_ | refine zI ?_ _)); exact BK501.out⟩, ⟨zT HB.out GE501.out⟩⟩
      rw [if_neg c36] at H
      have c36b0 : (t513 == 0) = false := beq_eq_false_iff_ne.mpr c36
      have c36b1 : (t513 != 0) = true := bne_iff_ne.mpr c36
      have H' := zA H
      clear H
      go_wp2
      go_meet
      case rel => exact ⟨_, (true), (by first | rfl | (simp; done) | (simp [*]; done)), H', ⟨by have := HJ6.out; first | omega | exact Nat.le_refl _⟩, ⟨by (with_reducible repeat (first | apply zF | apply zG | apply zH)); exact Kd.R_mono HO_4.out (fun _ hk => ⟨hk.1.2, hk.1.1⟩)⟩, ⟨by (with_reducible repeat (first | apply zF | apply zG | apply zH)); exact Kd.R_mono HO508.out (fun _ hk => ⟨hk.1.1.2, hk.1.2⟩)⟩, ⟨by (with_reducible repeat (first | apply zF | apply zG | apply zH)); exact Kd.R_mono HO_502001.out (fun _ hk => ⟨hk.1.1, hk.1.2⟩)⟩, ⟨by (with_reducible repeat (first | refine zJ ?_ _ | refine zK ?_ | refine zI ?_ _)); exact BK501.out⟩, ⟨zT HB.out GE501.out⟩⟩
     rw [if_neg c35] at H
     have c35b0 : (t509 == 0) = false := beq_eq_false_iff_ne.mpr c35
     have c35b1 : (t509 != 0) = true := bne_iff_ne.mpr c35
     (first | rw [c35b0] | (simp only [i64_w, i32_w]; rw [c35b0]) | skip)
     have H' := zA H
     clear H
     go_wp2
     go_meet
     case rel => exact ⟨_, (true), (by first | rfl | (simp; done) | (simp [*]; done)), H', ⟨by have := HJ6.out; first | omega | exact Nat.le_refl _⟩, ⟨by (with_reducible repeat (first | apply zF | apply zG | apply zH)); exact Kd.R_mono HO_4.out (fun _ hk => ⟨hk.1.2, hk.1.1⟩)⟩, ⟨by (with_reducible repeat (first | apply zF | apply zG | apply zH)); exact Kd.R_mono HO508.out (fun _ hk => ⟨hk.1.1.2, hk.1.2⟩)⟩, ⟨by (with_reducible repeat (first | apply zF | apply zG | apply zH)); exact Kd.R_mono HO_502001.out (fun _ hk => ⟨hk.1.1, hk.1.2⟩)⟩, ⟨by (with_reducible repeat (first | refine zJ ?_ _ | refine zK ?_ | refine zI ?_ _)); exact BK501.out⟩, ⟨zT HB.out GE501.out⟩⟩
    case rest =>
     clear HC25
     try clear c1
     try clear c2
     try clear p2
     try clear c3
     try clear c9
     try clear c10
     try clear c11
     try clear c12
     try clear c13
     try clear c14
     try clear c15
     try clear c18
     try clear c18b0
     try clear c18b1
     try clear c19
     try clear c20
     try clear c20b0
     try clear c20b1
     try clear c35
     try clear c35b0
     try clear c35b1
     try clear c36
     try clear c36b0
     try clear c36b1
     try clear c37
     try clear c37b0
     try clear c37b1
     try clear c38
     try clear c38b0
     try clear c38b1
     try clear hcz10_0
     try clear hcz10_1
     try clear hcz13_0
     try clear hcz13_1
     try clear hcz16_0
     try clear hcz16_1
     try clear hcz26_0
     try clear hcz26_1
     try clear hcz28_0
     try clear hcz28_1
     try clear hcz30_0
     try clear hcz30_1
     try clear hcz32_0
     try clear hcz32_1
     try clear hfz10_0
     try clear hfz10_1
     try clear hfz13_0
     try clear hfz13_1
     try clear hfz16_0
     try clear hfz16_1
     try clear hfz26_0
     try clear hfz26_1
     try clear hfz28_0
     try clear hfz28_1
     try clear hfz30_0
     try clear hfz30_1
     try clear hfz32_0
     try clear hfz32_1
     try clear p2
     obtain ⟨kq, x91_24, rfl, HA, HJ24, HO_4, HO_9, HO_502001, BK501, HB⟩ := hcut
     cases kq with
     | zero => exact absurd HA.out (by simp [laws_FnFirstLetters.j1])
     | succ kj24 =>
      have H := HA.out
      clear HA
      simp only [laws_FnFirstLetters.j1] at H
      by_cases c39 : x91_24 = true
      ·subst c39
       have H1 : (none) = some r := by rw [if_pos rfl] at H; exact H
       clear H
       have H := H1
       clear H1
       exact absurd H (by simp)
      replace c39 := Bool.eq_false_iff.mpr c39
      subst c39
      have H1 : (if (t506.length : Int) = 0 then (if t502 = 0 then (if (t506.length : Int) > 0 then (if 0 < (t506.length : Int) then (laws_FnFirstLetters.j2 kj24 t498 t502 (t502 != (rd t506 0)) t494 t495) else (none)) else (laws_FnFirstLetters.j2 kj24 t498 t502 false t494 t495)) else (laws_FnFirstLetters.j2 kj24 t498 t502 true t494 t495)) else (if (t506.length : Int) > 0 then (if 0 < (t506.length : Int) then (laws_FnFirstLetters.j2 kj24 t498 t502 (t502 != (rd t506 0)) t494 t495) else (none)) else (laws_FnFirstLetters.j2 kj24 t498 t502 false t494 t495))) = some r := by rw [if_neg (show ¬ (false = true) by decide)] at H; exact H
      clear H
      have H := H1
      clear H1
      have HC40 := zA H
      clear H
      go_upto_region 16 with (fail)
      go_cut [110] (fun v110 wc => ∃ (kq : Nat) (x110_39 : Bool), v110 = .bool x110_39 ∧ Aside0 (laws_FnFirstLetters.j2 kq t498 t502 x110_39 t494 t495 = some r) ∧ Aside0 (kq ≤ kj24) ∧ Aside0 (Kd.R (Kd.int .i64) 2 wc w.heap.size (fun k_ => some k_ ≠ ((.slice Ao11 t495.length co11) : Value).ownBlock) (.slice Ao14 t498.length co14) t498) ∧ Aside0 (Kd.R (Kd.int .i64) 2 wc w.heap.size (fun k_ => some k_ ≠ ((.slice Ao14 t498.length co14) : Value).ownBlock) (.slice Ao11 t495.length co11) t495) ∧ Aside0 (wc.heap[gb501]? = some (.cells #[.int .i64 t494, (.slice Ao11 t495.length co11)] 26 (0, 0))) ∧ Aside0 (Below w.heap.size w wc))
      case first =>
       have H := HC40.out
       clear HC40
       by_cases c41 : (t506.length : Int) = 0
       ·rw [if_pos c41] at H
        have c41b0 : ((t506.length : Int) == 0) = true := beq_iff_eq.mpr c41
        have c41b1 : ((t506.length : Int) != 0) = false := bne_eq_false_iff_eq.mpr c41
        clear c41
        (first | rw [c41b0] | (simp only [i64_w, i32_w]; rw [c41b0]) | skip)
        by_cases c42 : t502 = 0
        ·rw [if_pos c42] at H
         have c42b0 : (t502 == 0) = true := beq_iff_eq.mpr c42
         have c42b1 : (t502 != 0) = false := bne_eq_false_iff_eq.mpr c42
         clear c42
         by_cases c43 : (t506.length : Int) > 0
         ·rw [if_pos c43] at H
          have c43b0 : decide (0 < (t506.length : Int)) = true := decide_eq_true c43
          have c43b1 : decide (0 < t506.length) = true := decide_eq_true (by omega)
          clear c43
          by_cases c44 : 0 < (t506.length : Int)
          ·rw [if_pos c44] at H
           have c44b0 : decide (0 < (t506.length : Int)) = true := decide_eq_true c44
           have c44b1 : decide (0 < t506.length) = true := decide_eq_true (by omega)
           clear c44
           have H' := zA H
           clear H
           obtain ⟨Ao45, co45, eo45⟩ := Kd.R_slice HO_9.out
           subst eo45
           have p518 : 0 ≤ (0 : Int) := (by omega)
           have q518 : 0 < (t506.length : Int) := of_decide_eq_true (by first | (with_reducible assumption) | assumption)
           obtain ⟨ad518, e518, hx518_0⟩ := Kd.at_int (Kd.R_reads' HO_9.out).2.2 0 p518 q518
           cases e518
           have qi518 : (0 < t506.length) = True := eq_true (by omega)
           (try rw [show ((0 : Int)).toNat = 0 from rfl] at hx518_0)
           (try rw [Addr.add_zero'] at hx518_0)
           replace p518 := eq_true p518
           replace q518 := eq_true q518
           go_wp2
           go_meet
           case rel => exact ⟨_, ((t502 != (rd t506 0))), (by first | rfl | (simp; done) | (simp [*]; done)), H', ⟨by have := HJ6.out; have := HJ24.out; first | omega | exact Nat.le_refl _⟩, ⟨by (with_reducible repeat (first | apply zF | apply zG | apply zH)); exact Kd.R_mono HO_4.out (fun _ hk => hk.2)⟩, ⟨by (with_reducible repeat (first | apply zF | apply zG | apply zH)); exact Kd.R_mono HO_502001.out (fun _ hk => hk.1)⟩, ⟨by (with_reducible repeat (first | refine zJ ?_ _ | refine zK ?_ | refine zI ?_ _)); exact BK501.out⟩, ⟨zT HB.out GE501.out⟩⟩
          rw [if_neg c44] at H
          exact absurd H (by simp)
         rw [if_neg c43] at H
         have c43b0 : decide (0 < (t506.length : Int)) = false := decide_eq_false c43
         have c43b1 : decide (0 < t506.length) = false := decide_eq_false (by omega)
         clear c43
         have H' := zA H
         clear H
         obtain ⟨Ao46, co46, eo46⟩ := Kd.R_slice HO_9.out
         subst eo46
         go_wp2
         go_meet
         case rel => exact ⟨_, (false), (by first | rfl | (simp; done) | (simp [*]; done)), H', ⟨by have := HJ6.out; have := HJ24.out; first | omega | exact Nat.le_refl _⟩, ⟨by (with_reducible repeat (first | apply zF | apply zG | apply zH)); exact Kd.R_mono HO_4.out (fun _ hk => hk.2)⟩, ⟨by (with_reducible repeat (first | apply zF | apply zG | apply zH)); exact Kd.R_mono HO_502001.out (fun _ hk => hk.1)⟩, ⟨by (with_reducible repeat (first | refine zJ ?_ _ | refine zK ?_ | refine zI ?_ _)); exact BK501.out⟩, ⟨zT HB.out GE501.out⟩⟩
        rw [if_neg c42] at H
        have c42b0 : (t502 == 0) = false := beq_eq_false_iff_ne.mpr c42
        have c42b1 : (t502 != 0) = true := bne_iff_ne.mpr c42
        have H' := zA H
        clear H
        obtain ⟨Ao47, co47, eo47⟩ := Kd.R_slice HO_9.out
        subst eo47
        go_wp2
        go_meet
        case rel => exact ⟨_, (true), (by first | rfl | (simp; done) | (simp [*]; done)), H', ⟨by have := HJ6.out; have := HJ24.out; first | omega | exact Nat.le_refl _⟩, ⟨by (with_reducible repeat (first | apply zF | apply zG | apply zH)); exact Kd.R_mono HO_4.out (fun _ hk => hk.2)⟩, ⟨by (with_reducible repeat (first | apply zF | apply zG | apply zH)); exact Kd.R_mono HO_502001.out (fun _ hk => hk.1)⟩, ⟨by (with_reducible repeat (first | refine zJ ?_ _ | refine zK ?_ | refine zI ?_ _)); exact BK501.out⟩, ⟨zT HB.out GE501.out⟩⟩
       rw [if_neg c41] at H
       have c41b0 : ((t506.length : Int) == 0) = false := beq_eq_false_iff_ne.mpr c41
       have c41b1 : ((t506.length : Int) != 0) = true := bne_iff_ne.mpr c41
       have c41b2 : ¬ (t506 = []) := fun h_ => c41 (by rw [h_]; rfl)
       (first | rw [c41b0] | (simp only [i64_w, i32_w]; rw [c41b0]) | skip)
       by_cases c48 : (t506.length : Int) > 0
       ·rw [if_pos c48] at H
        have c48b0 : decide (0 < (t506.length : Int)) = true := decide_eq_true c48
        have c48b1 : decide (0 < t506.length) = true := decide_eq_true (by omega)
        clear c48
        by_cases c49 : 0 < (t506.length : Int)
        ·rw [if_pos c49] at H
         have c49b0 : decide (0 < (t506.length : Int)) = true := decide_eq_true c49
         have c49b1 : decide (0 < t506.length) = true := decide_eq_true (by omega)
         clear c49
         have H' := zA H
         clear H
         obtain ⟨Ao50, co50, eo50⟩ := Kd.R_slice HO_9.out
         subst eo50
         have p519 : 0 ≤ (0 : Int) := (by omega)
         have q519 : 0 < (t506.length : Int) := of_decide_eq_true (by first | (with_reducible assumption) | assumption)
         obtain ⟨ad519, e519, hx519_0⟩ := Kd.at_int (Kd.R_reads' HO_9.out).2.2 0 p519 q519
         cases e519
         have qi519 : (0 < t506.length) = True := eq_true (by omega)
         (try rw [show ((0 : Int)).toNat = 0 from rfl] at hx519_0)
         (try rw [Addr.add_zero'] at hx519_0)
         replace p519 := eq_true p519
         replace q519 := eq_true q519
         go_wp2
         go_meet
         case rel => exact ⟨_, ((t502 != (rd t506 0))), (by first | rfl | (simp; done) | (simp [*]; done)), H', ⟨by have := HJ6.out; have := HJ24.out; first | omega | exact Nat.le_refl _⟩, ⟨by (with_reducible repeat (first | apply zF | apply zG | apply zH)); exact Kd.R_mono HO_4.out (fun _ hk => hk.2)⟩, ⟨by (with_reducible repeat (first | apply zF | apply zG | apply zH)); exact Kd.R_mono HO_502001.out (fun _ hk => hk.1)⟩, ⟨by (with_reducible repeat (first | refine zJ ?_ _ | refine zK ?_ | refine zI ?_ _)); exact BK501.out⟩, ⟨zT HB.out GE501.out⟩⟩
        rw [if_neg c49] at H
        exact absurd H (by simp)
       rw [if_neg c48] at H
       have c48b0 : decide (0 < (t506.length : Int)) = false := decide_eq_false c48
       have c48b1 : decide (0 < t506.length) = false := decide_eq_false (by omega)
       clear c48
       have H' := zA H
       clear H
       obtain ⟨Ao51, co51, eo51⟩ := Kd.R_slice HO_9.out
       subst eo51
       go_wp2
       go_meet
       case rel => exact ⟨_, (false), (by first | rfl | (simp; done) | (simp [*]; done)), H', ⟨by have := HJ6.out; have := HJ24.out; first | omega | exact Nat.le_refl _⟩, ⟨by (with_reducible repeat (first | apply zF | apply zG | apply zH)); exact Kd.R_mono HO_4.out (fun _ hk => hk.2)⟩, ⟨by (with_reducible repeat (first | apply zF | apply zG | apply zH)); exact Kd.R_mono HO_502001.out (fun _ hk => hk.1)⟩, ⟨by (with_reducible repeat (first | refine zJ ?_ _ | refine zK ?_ | refine zI ?_ _)); exact BK501.out⟩, ⟨zT HB.out GE501.out⟩⟩
      case rest =>
       clear HC40
       try clear c1
       try clear c2
       try clear p2
       try clear c3
       try clear c4
       try clear p5
       try clear q5
       try clear hx5
       try clear qi5
       try clear c9
       try clear c10
       try clear c11
       try clear c12
       try clear c13
       try clear c14
       try clear c15
       try clear c18
       try clear c18b0
       try clear c18b1
       try clear c19
       try clear c20
       try clear c20b0
       try clear c20b1
       try clear c35
       try clear c35b0
       try clear c35b1
       try clear c36
       try clear c36b0
       try clear c36b1
       try clear c37
       try clear c37b0
       try clear c37b1
       try clear c38
       try clear c38b0
       try clear c38b1
       try clear c39
       try clear c41
       try clear c41b0
       try clear c41b1
       try clear c41b2
       try clear c42
       try clear c42b0
       try clear c42b1
       try clear c43
       try clear c43b0
       try clear c43b1
       try clear c44
       try clear c44b0
       try clear c44b1
       try clear c48
       try clear c48b0
       try clear c48b1
       try clear c49
       try clear c49b0
       try clear c49b1
       try clear p51
       try clear q51
       try clear hx51
       try clear qi51
       try clear hcz10_0
       try clear hcz10_1
       try clear hcz13_0
       try clear hcz13_1
       try clear hcz16_0
       try clear hcz16_1
       try clear hcz26_0
       try clear hcz26_1
       try clear hcz28_0
       try clear hcz28_1
       try clear hcz30_0
       try clear hcz30_1
       try clear hcz32_0
       try clear hcz32_1
       try clear hfz10_0
       try clear hfz10_1
       try clear hfz13_0
       try clear hfz13_1
       try clear hfz16_0
       try clear hfz16_1
       try clear hfz26_0
       try clear hfz26_1
       try clear hfz28_0
       try clear hfz28_1
       try clear hfz30_0
       try clear hfz30_1
       try clear hfz32_0
       try clear hfz32_1
       try clear hx518_0
       try clear hx519_0
       try clear p2
       try clear p518
       try clear p519
       try clear q518
       try clear q519
       obtain ⟨kq, x110_39, rfl, HA, HJ39, HO_4, HO_502001, BK501, HB⟩ := hcut
       cases kq with
       | zero => exact absurd HA.out (by simp [laws_FnFirstLetters.j2])
       | succ kj39 =>
        have H := HA.out
        clear HA
        simp only [laws_FnFirstLetters.j2] at H
        by_cases c52 : x110_39 = true
        ·subst c52
         have H1 : (none) = some r := by rw [if_pos rfl] at H; exact H
         clear H
         have H := H1
         clear H1
         exact absurd H (by simp)
        replace c52 := Bool.eq_false_iff.mpr c52
        subst c52
        have H1 : (laws_FnFirstLetters.l0 kj39 t498 t502 0 t494 t495) = some r := by rw [if_neg (show ¬ (false = true) by decide)] at H; exact H
        clear H
        have H := H1
        clear H1
        have H' := zA H
        clear H
        go_wp2
        go_loopg [17] kj39 (fun kq v17 w' => ∃ (x17_4 : Int), v17 = .int .i64 x17_4 ∧ Aside0 (laws_FnFirstLetters.l0 kq t498 t502 x17_4 t494 t495 = some r) ∧ Aside0 (kq ≤ kj39) ∧ Aside0 (Kd.R (Kd.int .i64) 2 w' w.heap.size (fun k_ => some k_ ≠ ((.slice Ao11 t495.length co11) : Value).ownBlock) (.slice Ao14 t498.length co14) t498) ∧ Aside0 (Kd.R (Kd.int .i64) 2 w' w.heap.size (fun k_ => some k_ ≠ ((.slice Ao14 t498.length co14) : Value).ownBlock) (.slice Ao11 t495.length co11) t495) ∧ Aside0 (w'.heap[gb501]? = some (.cells #[.int .i64 t494, (.slice Ao11 t495.length co11)] 26 (0, 0))) ∧ Aside0 (Below w.heap.size w w'))
        case atStart => exact ⟨(0), (by first | rfl | (simp; done) | (simp [*]; done)), H', ⟨Nat.le_refl _⟩, ⟨by (with_reducible repeat (first | apply zF | apply zG | apply zH)); exact HO_4.out⟩, ⟨by (with_reducible repeat (first | apply zF | apply zG | apply zH)); exact HO_502001.out⟩, ⟨by (with_reducible repeat (first | refine zJ ?_ _ | refine zK ?_ | refine zI ?_ _)); exact BK501.out⟩, ⟨zT HB.out GE501.out⟩⟩
        case round =>
         clear H'
         try clear c1
         try clear c2
         try clear p2
         try clear c3
         try clear c4
         try clear c5
         try clear p5
         try clear q5
         try clear hx5
         try clear qi5
         try clear c9
         try clear c10
         try clear c11
         try clear c12
         try clear c13
         try clear c14
         try clear c15
         try clear c18
         try clear c18b0
         try clear c18b1
         try clear c19
         try clear c20
         try clear c20b0
         try clear c20b1
         try clear c35
         try clear c35b0
         try clear c35b1
         try clear c36
         try clear c36b0
         try clear c36b1
         try clear c37
         try clear c37b0
         try clear c37b1
         try clear c38
         try clear c38b0
         try clear c38b1
         try clear c39
         try clear c41
         try clear c41b0
         try clear c41b1
         try clear c41b2
         try clear c42
         try clear c42b0
         try clear c42b1
         try clear c43
         try clear c43b0
         try clear c43b1
         try clear c44
         try clear c44b0
         try clear c44b1
         try clear c48
         try clear c48b0
         try clear c48b1
         try clear c49
         try clear c49b0
         try clear c49b1
         try clear p51
         try clear q51
         try clear hx51
         try clear qi51
         try clear c52
         try clear hcz10_0
         try clear hcz10_1
         try clear hcz13_0
         try clear hcz13_1
         try clear hcz16_0
         try clear hcz16_1
         try clear hcz26_0
         try clear hcz26_1
         try clear hcz28_0
         try clear hcz28_1
         try clear hcz30_0
         try clear hcz30_1
         try clear hcz32_0
         try clear hcz32_1
         try clear hfz10_0
         try clear hfz10_1
         try clear hfz13_0
         try clear hfz13_1
         try clear hfz16_0
         try clear hfz16_1
         try clear hfz26_0
         try clear hfz26_1
         try clear hfz28_0
         try clear hfz28_1
         try clear hfz30_0
         try clear hfz30_1
         try clear hfz32_0
         try clear hfz32_1
         try clear hx518_0
         try clear hx519_0
         try clear p2
         try clear p5
         try clear p51
         try clear p518
         try clear p519
         try clear q5
         try clear q51
         try clear q518
         try clear q519
         obtain ⟨x17_4, rfl, HA, HK4, HO_4, HO_502001, BK501, HB⟩ := hrel
         cases gk with
         | zero => exact absurd HA.out (by simp [laws_FnFirstLetters.l0])
         | succ k4 =>
          have H := HA.out
          clear HA
          simp only [laws_FnFirstLetters.l0] at H
          by_cases c53 : x17_4 < t494
          ·rw [if_pos c53] at H
           have c53b0 : decide (x17_4 < t494) = true := decide_eq_true c53
           clear c53
           obtain ⟨y520, hy520⟩ : ∃ y_ : List Int, y_ = (([x17_4] : List Int)) := ⟨_, rfl⟩
           replace H : ((impl_IsPrefix.f k4 t494 t495 y520 t498).bind fun bt523 => (if bt523.2 = 0 then (if 0 ≤ (IntKind.u64.wrap (x17_4)) then (if (bt523.1 != ((Go.bits .and .i64 (shr .i64 t502 (IntKind.u64.wrap (x17_4))) 1) == 1)) = true then (none) else (laws_FnFirstLetters.l0 k4 t498 t502 (wrap64 (x17_4 + 1)) t494 t495)) else (none)) else (none))) = some r := by first | (rw [hy520]; with_reducible exact H) | (have H2_ := (Option.bind_some _ _).symm.trans H; rw [hy520]; with_reducible exact H2_) | (have H2_ := (Option.bind_some _ _).symm.trans H; with_reducible exact H2_) | with_reducible exact H | (rw [hy520]; exact H) | exact H
           have Ny520 := zA hy520
           clear hy520
           replace H := Option.bind_eq_some_iff.mp H
           obtain ⟨⟨t523, t524⟩, A540, H⟩ := H
           replace H : (if t524 = 0 then (if 0 ≤ (IntKind.u64.wrap (x17_4)) then (if (t523 != ((Go.bits .and .i64 (shr .i64 t502 (IntKind.u64.wrap (x17_4))) 1) == 1)) = true then (none) else (laws_FnFirstLetters.l0 k4 t498 t502 (wrap64 (x17_4 + 1)) t494 t495)) else (none)) else (none)) = some r := H
           have A54 := zA A540
           clear A540
           by_cases c55 : t524 = 0
           ·rw [if_pos c55] at H
            have c55b0 : (t524 == 0) = true := beq_iff_eq.mpr c55
            have c55b1 : (t524 != 0) = false := bne_eq_false_iff_eq.mpr c55
            clear c55
            obtain ⟨ji56, hji56⟩ : ∃ j_ : Int, (IntKind.u64.wrap (x17_4)) = j_ := ⟨_, rfl⟩
            replace H : (if 0 ≤ (ji56) then (if (t523 != ((Go.bits .and .i64 (shr .i64 t502 (ji56)) 1) == 1)) = true then (none) else (laws_FnFirstLetters.l0 k4 t498 t502 (wrap64 (x17_4 + 1)) t494 t495)) else (none)) = some r := by first | (rw [hji56] at H; exact H) | (simp only [hji56] at H ⊢; exact H)
            (try rw [hji56] at A54)
            by_cases c57 : 0 ≤ (ji56)
            ·rw [if_pos c57] at H
             have c57b0 := eq_true c57
             have c57b1 : decide (0 ≤ (ji56)) = true := decide_eq_true c57
             clear c57
             obtain ⟨ji58, hji58⟩ : ∃ j_ : Int, (shr .i64 t502 (ji56)) = j_ := ⟨_, rfl⟩
             replace H : (if (t523 != ((Go.bits .and .i64 (ji58) 1) == 1)) = true then (none) else (laws_FnFirstLetters.l0 k4 t498 t502 (wrap64 (x17_4 + 1)) t494 t495)) = some r := by first | (rw [hji58] at H; exact H) | (simp only [hji58] at H ⊢; exact H)
             (try rw [hji58] at A54)
             have hji58_ : (t502 / 2 ^ min (ji56).toNat 64) = ji58 := hji58
             have hji58z : (ji56) ≤ 64 → (t502 / 2 ^ (ji56).toNat) = ji58 := shr_small hji58
             by_cases c59 : (t523 != ((Go.bits .and .i64 (ji58) 1) == 1)) = true
             ·rw [if_pos c59] at H
              exact absurd H (by simp)
             rw [if_neg c59] at H
             have c59b0 : (t523 != ((Go.bits .and .i64 (ji58) 1) == 1)) = false := by simpa using c59
             (try (have c59b1 : decide (t523 = ((Go.bits .and .i64 (ji58) 1) == 1)) = true := by simpa using c59))
             (try (have c59b2 : (t523 == ((Go.bits .and .i64 (ji58) 1) == 1)) = true := by simpa using c59))
             clear c59
             have H' := zA H
             clear H
             have hcz60_0 : wr.cell? ⟨gb501, 0, none⟩ = some (.int .i64 t494) := (blk_cell BK501.out 0).trans rfl
             have hcz60_1 : wr.cell? ⟨gb501, 1, none⟩ = some (.slice Ao11 t495.length co11) := (blk_cell BK501.out 1).trans rfl
             have hfz60_0 := blk_frozen BK501.out 0
             have hfz60_1 := blk_frozen BK501.out 1
             go_wp2_with (first | ((with_reducible refine gate_dst (N := 120) rfl ?_); refine Kd.R_lit (Kd.int .i64) _ 2 ?hg (N := 120) ?hd (xs := ([x17_4] : List Int)) (inner := [.int .i64 x17_4]) (ok := fun _ => True) (okp := fun _ => True) ?hr ?hp (fun _ hk => hk) trivial (Below.refl _ _) (Nat.le_refl _) (by simp) ?_; (case hd => rfl); (case hg => rfl); (case hr => first | (go_simp; done) | (go_simp; rfl)); (case hp => exact (Reps.one (show Kd.M (Kd.int .i64) _ _ _ x17_4 [.int .i64 x17_4] from rfl) (Reps.none _ _))); intro v521 w61 ho62 hb hg_ hnew_; clear hg_ hnew_; (first | rw [← Ny520.out] at ho62 | (simp only [Int.reduceToNat] at ho62; rw [← Ny520.out] at ho62)); have n0_ := zA (Kd.R_elder' (zP HO_4.out) (Kd.R_base ho62) hb); have n1_ := zA (Kd.R_elder' (zP HO_502001.out) (Kd.R_base ho62) hb); have n2_ := zA (Kd.R_lower (Kd.R_new' (Kd.R_new' ho62 (Kd.R_lt (zP HO_4.out))) (Kd.R_lt (zP HO_502001.out))) (below_size (zT HB.out GE501.out))); have n3_ := zA (blk_below (g := gb501) (o := .cells #[.int .i64 t494, .slice Ao11 t495.length co11] 26 (0, 0)) (zR BK501.out) hb); have n4_ := zA (below_step (zT HB.out GE501.out) hb); clear HO_4; clear HO_502001; clear BK501; clear HB; have HO_4 := n0_; have HO_502001 := n1_; have HO522 := n2_; have BK501 := n3_; have HB := n4_; clear n0_ n1_ n2_ n3_ n4_; clear hb ho62; obtain ⟨Ao63, co63, eo63⟩ := Kd.R_slice HO522.out; subst eo63) | ((with_reducible refine gate_callee (f := 16) rfl ?_); refine zO (some 122) Tryd.func16 #[.agg #[.int .i64 t494, .slice Ao11 t495.length co11], .slice Ao63 y520.length co63, .slice Ao14 t498.length co14] ?_; (with_reducible refine (impl_IsPrefix.calls k4 t494 (fun k_ => some k_ = (.slice Ao11 t495.length co11 : Value).ownBlock) _ _ t495 (fun k_ => some k_ = (.slice Ao63 y520.length co63 : Value).ownBlock) _ _ y520 (fun k_ => some k_ = (.slice Ao14 t498.length co14 : Value).ownBlock) _ _ t498 t523 t524 _ ?side1 ?side2 ?side3 ?side4 A54.out).mono ?_); (case side1 => exact Kd.R_V (Kd.R_tight rfl (Kd.R_types (HO_502001.out) BK501.out (by decide)))); (case side2 => exact Kd.R_V (Kd.R_tight rfl (Kd.R_types (HO522.out) BK501.out (by decide)))); (case side3 => exact Kd.R_V (Kd.R_tight rfl (Kd.R_types (HO_4.out) BK501.out (by decide)))); (case side4 => exact TabW.below HT.out (zT HB.out GE501.out)); rintro e w64 ⟨rfl, hb⟩; refine ⟨_, rfl, ?_⟩; have n0_ := zA (Kd.R_below (zP HO_4.out) hb); have n1_ := zA (Kd.R_below (zP HO_502001.out) hb); have n2_ := zA (Kd.R_below (zP HO522.out) hb); have n3_ := zA (blk_below (g := gb501) (o := .cells #[.int .i64 t494, .slice Ao11 t495.length co11] 26 (0, 0)) (zR BK501.out) hb); have n4_ := zA (below_step (zT HB.out GE501.out) hb); clear HO_4; clear HO_502001; clear HO522; clear BK501; clear HB; have HO_4 := n0_; have HO_502001 := n1_; have HO522 := n2_; have BK501 := n3_; have HB := n4_; clear n0_ n1_ n2_ n3_ n4_; (try clear hb)))
             go_roundg k4
             case measure => have := HJ6.out; have := HJ24.out; have := HJ39.out; have := HK4.out; omega
             case rel => exact ⟨(wrap64 (x17_4 + 1)), (by first | rfl | (simp; done) | (simp [*]; done)), H', ⟨by have := HJ6.out; have := HJ24.out; have := HJ39.out; have := HK4.out; omega⟩, ⟨by (with_reducible repeat (first | apply zF | apply zG | apply zH)); exact Kd.R_mono HO_4.out (fun _ hk => hk.1)⟩, ⟨by (with_reducible repeat (first | apply zF | apply zG | apply zH)); exact Kd.R_mono HO_502001.out (fun _ hk => hk.1)⟩, ⟨by (with_reducible repeat (first | refine zJ ?_ _ | refine zK ?_ | refine zI ?_ _)); exact BK501.out⟩, ⟨zT HB.out GE501.out⟩⟩
            rw [if_neg c57] at H
            exact absurd H (by simp)
           rw [if_neg c55] at H
           exact absurd H (by simp)
          rw [if_neg c53] at H
          have c53b0 : decide (x17_4 < t494) = false := decide_eq_false c53
          clear c53
          obtain rfl := Option.some.inj H
          have hcz65_0 : wr.cell? ⟨gb501, 0, none⟩ = some (.int .i64 t494) := (blk_cell BK501.out 0).trans rfl
          have hcz65_1 : wr.cell? ⟨gb501, 1, none⟩ = some (.slice Ao11 t495.length co11) := (blk_cell BK501.out 1).trans rfl
          have hfz65_0 := blk_frozen BK501.out 0
          have hfz65_1 := blk_frozen BK501.out 1
          go_wp2
          go_ret
          exact ⟨by first | rfl | (simp [errW_none, errW_some] <;> rfl) | (simp [*, errW_none, errW_some] <;> rfl), by repeat (first | (with_reducible first | exact HB.out | apply zB | apply zC | apply zD | refine zE ?_ GE501.out) | exact HB.out)⟩
   rw [if_neg c20] at H
   have c20b0 : (t503 == 0) = false := beq_eq_false_iff_ne.mpr c20
   have c20b1 : (t503 != 0) = true := bne_iff_ne.mpr c20
   obtain rfl := Option.some.inj H
   go_wp2
   go_ret
   exact ⟨by first | rfl | (simp [errW_none, errW_some] <;> rfl) | (simp [*, errW_none, errW_some] <;> rfl), by repeat (first | (with_reducible first | exact HB.out | apply zB | apply zC | apply zD | refine zE ?_ GE501.out) | exact HB.out)⟩


end Go.Proofs.YtkiacoilecdepaaDoor.PAll
