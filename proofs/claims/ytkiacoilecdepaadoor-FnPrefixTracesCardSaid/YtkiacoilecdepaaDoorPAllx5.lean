-- Printed by a program of the session (wip/tools/pgen.py) out of the translation. Not trusted: Lean checks it.
import Derived.Test.YtkiacoilecdepaaDoorPAllx0
import Derived.Test.YtkiacoilecdepaaDoorPAllx1
import Derived.Test.YtkiacoilecdepaaDoorPAllx3
import Derived.Test.YtkiacoilecdepaaDoorPAllx4
namespace Go.Proofs.YtkiacoilecdepaaDoor.PAll
open Go.RowKit Go.Proofs.YtkiacoilecdepaaDoor.T Go.Proofs.YtkiacoilecdepaaDoorW.PrintWords Go.Proofs.YtkiacoilecdepaaDoorW.PrintLast Go.Proofs.YtkiacoilecdepaaDoorW.PrintMore
attribute [local go_sem] max2_int min2_int max_two min_two max_three min_three max_four min_four   -- for this text's walks alone
set_option linter.unusedVariables false
set_option linter.unusedSimpArgs false

/-! ### spec_l03Normal: function 68 -/
mutual
def spec_l03Normal.l0 : Nat → List Int → List Int → Int → List Int → Option (List Int)
 | 0, _, _, _, _ => none
 | k + 1, x5, x6, x397000, x397001 => if (x6.length : Int) > 0 then (spec_l03Normal.l1 k x5 x6 0 x397000 x397001) else (some x5)
def spec_l03Normal.l1 : Nat → List Int → List Int → Int → Int → List Int → Option (List Int)
 | 0, _, _, _, _, _ => none
 | k + 1, x5, x6, x7, x397000, x397001 => if x7 < x397000 then ((spec_l03First.f k x397000 x397001 x6 x7).bind fun t403 => (if t403 ≥ 0 then (if x5.length < 17592186044416 then ((spec_l03Without.f x6 t403).bind fun t407 => (spec_l03Normal.l0 k (x5 ++ [x7]) t407 x397000 x397001)) else (none)) else (spec_l03Normal.l1 k x5 x6 (wrap64 (x7 + 1)) x397000 x397001))) else (spec_l03Normal.l0 k x5 x6 x397000 x397001)
end
def spec_l03Normal.f (k : Nat) (a0_0 : Int) (l0_1 : List Int) (l1 : List Int) : Option (List Int) := (spec_l01Own.f l1).bind fun t400 => (spec_l03Normal.l0 k (([] : List Int)) t400 a0_0 l0_1)

set_option maxHeartbeats 8000000 in
set_option maxRecDepth 100000 in
theorem spec_l03Normal.calls (k : Nat) (a0_0 : Int) (A0_1 : Option Addr) (c0_1 : Nat) (l0_1 : List Int) (A1 : Option Addr) (c1 : Nat) (l1 : List Int) (r : List Int) (w : World) (hr0_1 : Kd.C (Kd.int .i64) w A0_1 l0_1.length l0_1) (hc0_1 : l0_1.length ≤ c0_1) (hr1 : Kd.C (Kd.int .i64) w A1 l1.length l1) (hc1 : l1.length ≤ c1) (h : spec_l03Normal.f k a0_0 l0_1 l1 = some r) :
  Calls Tryd.prog 68 #[.agg #[.int .i64 a0_0, .slice A0_1 l0_1.length c0_1], .slice A1 l1.length c1] w fun e w' => ∃ v0_ : Value, e = .returned (v0_) ∧ Kd.R (Kd.int .i64) 2 w' w.heap.size (fun _ => True) v0_ r ∧ Below w.heap.size w w' := by
 have hu26 := Tryd.underlying26
 have HR0_1 := zA hr0_1
 have HC0_1 := zA hc0_1
 clear hr0_1 hc0_1
 have HR1 := zA hr1
 have HC1 := zA hc1
 clear hr1 hc1
 have HB := zA (Below.refl w.heap.size w)
 have H : ((spec_l01Own.f l1).bind fun t400 => (spec_l03Normal.l0 k (([] : List Int)) t400 a0_0 l0_1)) = some r := h
 clear h
 obtain ⟨y397, hy397⟩ : ∃ y_ : List Int, y_ = (([] : List Int)) := ⟨_, rfl⟩
 replace H : ((spec_l01Own.f l1).bind fun t400 => (spec_l03Normal.l0 k y397 t400 a0_0 l0_1)) = some r := zy hy397 H
 have Ny397 := zA hy397
 clear hy397
 obtain ⟨t400, A3, H⟩ := zb H
 try dsimp only at H
 have H' := zA H
 clear H
 go_enter Tryd.func68, Tryd.ntmps68
 go_wp2_with (first | ((with_reducible refine gate_dst (N := 2) rfl ?_); refine box_event ?hg (N := 2) ?hd (cs := #[.int .i64 a0_0, .slice A0_1 l0_1.length c0_1]) (t := 26) ?hr ?_; (case hd => rfl); (case hg => rfl); (case hr => first | (go_simp; done) | (go_simp; rfl)); intro gb396 hg w4 hbox hb; have BK396 := zA (hbox); have GW396 := zA ((by rw [hg]; exact (below_size (zQ HB.out)) : w.heap.size ≤ gb396)); have GE396 := zA ((by rw [hg]; exact (below_size (zQ HB.out)) : w.heap.size ≤ gb396)); replace HB := zA (below_step (zQ HB.out) hb); clear hb hbox hg) | ((with_reducible refine gate_dst (N := 9) rfl ?_); refine Kd.R_lit (Kd.int .i64) _ 2 ?hg (N := 9) ?hd (xs := ([] : List Int)) (inner := []) (ok := fun _ => True) (okp := fun _ => True) ?hr ?hp (fun _ hk => hk) trivial (Below.refl _ _) (Nat.le_refl _) (by simp) ?_; (case hd => rfl); (case hg => rfl); (case hr => first | (go_simp; done) | (go_simp; rfl)); (case hp => exact (Reps.none _ _)); intro v398 w5 ho6 hb hg_ hnew_; clear hg_ hnew_; (first | rw [← Ny397.out] at ho6 | (simp only [Int.reduceToNat] at ho6; rw [← Ny397.out] at ho6)); have HO399 := zA (Kd.R_lower ho6 (below_size (zT HB.out GE396.out))); replace BK396 := zA (blk_below (g := gb396) (o := .cells #[.int .i64 a0_0, .slice A0_1 l0_1.length c0_1] 26 (0, 0)) (zR BK396.out) hb); replace HB := zA (below_step (zT HB.out GE396.out) hb); clear hb ho6) | ((with_reducible refine gate_callee (f := 76) rfl ?_); refine zO (some 11) Tryd.func76 #[.slice A1 l1.length c1] ?_; (with_reducible refine (spec_l01Own.calls _ _ l1 t400 _ ?side1 ?side2 A3.out).mono ?_); (case side1 => exact zS (Kd.C_below HR1.out HB.out)); (case side2 => exact HC1.out); rintro e w7 ⟨v401, rfl, ho0, hb⟩; refine ⟨_, rfl, ?_⟩; have HO402 := zA (Kd.R_lower (Kd.R_new' ho0 (Kd.R_lt (zP HO399.out))) (below_size (zT HB.out GE396.out))); replace HO399 := zA (Kd.R_elder' (zP HO399.out) (Kd.R_base ho0) hb); replace BK396 := zA (blk_below (g := gb396) (o := .cells #[.int .i64 a0_0, .slice A0_1 l0_1.length c0_1] 26 (0, 0)) (zR BK396.out) hb); replace HB := zA (below_step (zT HB.out GE396.out) hb); (try clear hb); (try clear ho0)))
 go_loopg [5, 6] k (fun kq v5 v6 w' => ∃ (x5_1 : List Int) (x6_1 : List Int), Aside0 (spec_l03Normal.l0 kq x5_1 x6_1 a0_0 l0_1 = some r) ∧ Aside0 (kq ≤ k) ∧ Aside0 (Kd.R (Kd.int .i64) 2 w' w.heap.size (fun k_ => some k_ ≠ (v6 : Value).ownBlock) v5 x5_1) ∧ Aside0 (Kd.R (Kd.int .i64) 2 w' w.heap.size (fun k_ => some k_ ≠ (v5 : Value).ownBlock) v6 x6_1) ∧ Aside0 (w'.heap[gb396]? = some (.cells #[.int .i64 a0_0, (.slice A0_1 l0_1.length c0_1)] 26 (0, 0))) ∧ Aside0 (Below w.heap.size w w'))
 case atStart => exact ⟨(y397), (t400), H', ⟨Nat.le_refl _⟩, ⟨by (with_reducible repeat (first | apply zF | apply zG | apply zH)); exact Kd.R_mono HO399.out (fun _ hk => hk.2)⟩, ⟨by (with_reducible repeat (first | apply zF | apply zG | apply zH)); exact Kd.R_mono HO402.out (fun _ hk => hk.2)⟩, ⟨by (with_reducible repeat (first | refine zJ ?_ _ | refine zK ?_ | refine zI ?_ _)); exact BK396.out⟩, ⟨zT HB.out GE396.out⟩⟩
 case round =>
  clear H'
  try clear c1
  try clear p2
  try clear c6
  try clear c7
  obtain ⟨x5_1, x6_1, HA, HK1, HO_5, HO_6, BK396, HB⟩ := hrel
  cases gk with
  | zero => exact absurd HA.out (by simp [spec_l03Normal.l0])
  | succ k1 =>
   have H := HA.out
   clear HA
   simp only [spec_l03Normal.l0] at H
   by_cases c8 : (x6_1.length : Int) > 0
   ·rw [if_pos c8] at H
    have c8b0 : decide (0 < (x6_1.length : Int)) = true := decide_eq_true c8
    have c8b1 : decide (0 < x6_1.length) = true := decide_eq_true (by omega)
    clear c8
    have H' := zA H
    clear H
    obtain ⟨Ao9, co9, eo9⟩ := Kd.R_slice HO_6.out
    subst eo9
    go_wp2
    go_loopg [5, 6, 7] k1 (fun kq v5 v6 v7 w' => ∃ (x5_2 : List Int) (x6_2 : List Int) (x7_2 : Int), v7 = .int .i64 x7_2 ∧ Aside0 (spec_l03Normal.l1 kq x5_2 x6_2 x7_2 a0_0 l0_1 = some r) ∧ Aside0 (kq ≤ k1) ∧ Aside0 (Kd.R (Kd.int .i64) 2 w' w.heap.size (fun k_ => some k_ ≠ (v6 : Value).ownBlock) v5 x5_2) ∧ Aside0 (Kd.R (Kd.int .i64) 2 w' w.heap.size (fun k_ => some k_ ≠ (v5 : Value).ownBlock) v6 x6_2) ∧ Aside0 (w'.heap[gb396]? = some (.cells #[.int .i64 a0_0, (.slice A0_1 l0_1.length c0_1)] 26 (0, 0))) ∧ Aside0 (Below w.heap.size w w'))
    case atStart => exact ⟨(x5_1), (x6_1), (0), (by first | rfl | (simp; done) | (simp [*]; done)), H', ⟨Nat.le_refl _⟩, ⟨by (with_reducible repeat (first | apply zF | apply zG | apply zH)); exact HO_5.out⟩, ⟨by (with_reducible repeat (first | apply zF | apply zG | apply zH)); exact HO_6.out⟩, ⟨by (with_reducible repeat (first | refine zJ ?_ _ | refine zK ?_ | refine zI ?_ _)); exact BK396.out⟩, ⟨zT HB.out GE396.out⟩⟩
    case round =>
     clear H'
     try clear c1
     try clear p2
     try clear c6
     try clear c7
     try clear c8
     try clear c8b0
     try clear c8b1
     try clear p2
     obtain ⟨x5_2, x6_2, x7_2, rfl, HA, HK2, HO_5, HO_6, BK396, HB⟩ := hrel
     cases gk with
     | zero => exact absurd HA.out (by simp [spec_l03Normal.l1])
     | succ k2 =>
      have H := HA.out
      clear HA
      simp only [spec_l03Normal.l1] at H
      by_cases c10 : x7_2 < a0_0
      ·rw [if_pos c10] at H
       have c10b0 : decide (x7_2 < a0_0) = true := decide_eq_true c10
       clear c10
       obtain ⟨t403, A11, H⟩ := zb H
       try dsimp only at H
       by_cases c12 : t403 ≥ 0
       ·rw [if_pos c12] at H
        have c12b0 : decide (0 ≤ t403) = true := decide_eq_true c12
        clear c12
        by_cases c13 : x5_2.length < 17592186044416
        ·rw [if_pos c13] at H
         have LMc13 := zA c13
         clear c13
         obtain ⟨y404, hy404⟩ : ∃ y_ : List Int, y_ = (x5_2 ++ [x7_2]) := ⟨_, rfl⟩
         replace H : ((spec_l03Without.f x6_2 t403).bind fun t407 => (spec_l03Normal.l0 k2 y404 t407 a0_0 l0_1)) = some r := zy hy404 H
         have Ny404 := zA hy404
         clear hy404
         obtain ⟨t407, A14, H⟩ := zb H
         try dsimp only at H
         have H' := zA H
         clear H
         have hcz15_0 : wr.cell? ⟨gb396, 0, none⟩ = some (.int .i64 a0_0) := (blk_cell BK396.out 0).trans rfl
         have hcz15_1 : wr.cell? ⟨gb396, 1, none⟩ = some (.slice A0_1 l0_1.length c0_1) := (blk_cell BK396.out 1).trans rfl
         have hfz15_0 := blk_frozen BK396.out 0
         have hfz15_1 := blk_frozen BK396.out 1
         obtain ⟨Ao16, co16, eo16⟩ := Kd.R_slice HO_6.out
         subst eo16
         go_wp2_with (first | ((with_reducible refine gate_callee (f := 53) rfl ?_); refine zO (some 24) Tryd.func53 #[.agg #[.int .i64 a0_0, .slice A0_1 l0_1.length c0_1], .slice Ao16 x6_2.length co16, .int .i64 x7_2] ?_; (with_reducible refine (spec_l03First.calls k2 a0_0 _ _ l0_1 _ _ x6_2 x7_2 t403 _ ?side1 ?side2 ?side3 ?side4 A11.out).mono ?_); (case side1 => exact zS (Kd.C_below HR0_1.out HB.out)); (case side2 => exact HC0_1.out); (case side3 => exact zS (Kd.R_reads' HO_6.out).2.2); (case side4 => exact (Kd.R_reads' HO_6.out).2.1); rintro e w17 ⟨rfl, hb⟩; refine ⟨_, rfl, ?_⟩; replace HO_5 := zA (Kd.R_below (zP HO_5.out) hb); replace HO_6 := zA (Kd.R_below (zP HO_6.out) hb); replace BK396 := zA (blk_below (g := gb396) (o := .cells #[.int .i64 a0_0, .slice A0_1 l0_1.length c0_1] 26 (0, 0)) (zR BK396.out) hb); replace HB := zA (below_step (zT HB.out GE396.out) hb); (try clear hb)) | ((with_reducible refine gate_builtin (b := .append) (xs := #[.tmp 27, .tmp 29]) rfl ?_); at_builtin; refine Kd.R_append (Kd.int .i64) (w0 := w) w.heap.size rfl (.tmp 27) (.tmp 29) 24 2 (.int .i64 0) 8 rfl Tryd.underlying24 info2 rfl (by decide) (by omega) u5 x5_2 x7_2 [.int .i64 x7_2] (fun k_ => some k_ ≠ (.slice Ao16 x6_2.length co16 : Value).ownBlock) (fun _ => False) rfl rfl ?aP (fun _ hk => hk.elim) ?aF ?aO ?aB ?aS ?aL ?_; (case aP => exact rfl); (case aB => exact (zT HB.out GE396.out)); (case aF => exact (fun k_ hk => Kd.fresh' (Kd.R_lt (zP HO_6.out)) k_ hk)); (case aO => exact (zP HO_5.out)); (case aS => exact (below_size (zT HB.out GE396.out))); (case aL => have := LMc13.out; omega); intro v405 w18 ho hb hg hat; rw [← Ny404.out] at ho; replace HO_6 := zA (Kd.R_after (ok := (fun _ => True)) (by (with_reducible repeat (first | apply zF | apply zG | apply zH)); exact Kd.R_mono HO_6.out (fun _ hk => ⟨trivial, hk⟩)) hg hat); replace BK396 := zA (blk_grown (g := gb396) (o := .cells #[.int .i64 a0_0, .slice A0_1 l0_1.length c0_1] 26 (0, 0)) (zR BK396.out) hg (Kd.R_ne HO_5.out BK396.out (by decide))); replace HB := zA (hb); have HO406 := zA (ho); clear HO_5; clear ho hb hg hat) | ((with_reducible refine gate_callee (f := 114) rfl ?_); refine zO (some 33) Tryd.func114 #[.slice Ao16 x6_2.length co16, .int .i64 t403] ?_; (with_reducible refine (spec_l03Without.calls _ _ x6_2 t403 t407 _ ?side1 ?side2 A14.out).mono ?_); (case side1 => exact zS (Kd.R_reads' HO_6.out).2.2); (case side2 => exact (Kd.R_reads' HO_6.out).2.1); rintro e w19 ⟨v408, rfl, ho0, hb⟩; refine ⟨_, rfl, ?_⟩; have HO409 := zA (Kd.R_lower (Kd.R_new' (Kd.R_new' ho0 (Kd.R_lt (zP HO_6.out))) (Kd.R_lt (zP HO406.out))) (below_size (zT HB.out GE396.out))); replace HO_6 := zA (Kd.R_elder' (zP HO_6.out) (Kd.R_base ho0) hb); replace HO406 := zA (Kd.R_elder' (zP HO406.out) (Kd.R_base ho0) hb); replace BK396 := zA (blk_below (g := gb396) (o := .cells #[.int .i64 a0_0, .slice A0_1 l0_1.length c0_1] 26 (0, 0)) (zR BK396.out) hb); replace HB := zA (below_step (zT HB.out GE396.out) hb); (try clear hb); (try clear ho0)))
         go_roundg k2
         case measure => have := HK1.out; have := HK2.out; omega
         case rel => exact ⟨(y404), (t407), H', ⟨by have := HK1.out; have := HK2.out; omega⟩, ⟨by (with_reducible repeat (first | apply zF | apply zG | apply zH)); exact Kd.R_mono HO406.out (fun _ hk => hk.2)⟩, ⟨by (with_reducible repeat (first | apply zF | apply zG | apply zH)); exact Kd.R_mono HO409.out (fun _ hk => hk.2)⟩, ⟨by (with_reducible repeat (first | refine zJ ?_ _ | refine zK ?_ | refine zI ?_ _)); exact BK396.out⟩, ⟨zT HB.out GE396.out⟩⟩
        rw [if_neg c13] at H
        exact absurd H (by simp)
       rw [if_neg c12] at H
       have c12b0 : decide (0 ≤ t403) = false := decide_eq_false c12
       clear c12
       have H' := zA H
       clear H
       have hcz20_0 : wr.cell? ⟨gb396, 0, none⟩ = some (.int .i64 a0_0) := (blk_cell BK396.out 0).trans rfl
       have hcz20_1 : wr.cell? ⟨gb396, 1, none⟩ = some (.slice A0_1 l0_1.length c0_1) := (blk_cell BK396.out 1).trans rfl
       have hfz20_0 := blk_frozen BK396.out 0
       have hfz20_1 := blk_frozen BK396.out 1
       obtain ⟨Ao21, co21, eo21⟩ := Kd.R_slice HO_6.out
       subst eo21
       go_wp2_with (first | ((with_reducible refine gate_callee (f := 53) rfl ?_); refine zO (some 24) Tryd.func53 #[.agg #[.int .i64 a0_0, .slice A0_1 l0_1.length c0_1], .slice Ao21 x6_2.length co21, .int .i64 x7_2] ?_; (with_reducible refine (spec_l03First.calls k2 a0_0 _ _ l0_1 _ _ x6_2 x7_2 t403 _ ?side1 ?side2 ?side3 ?side4 A11.out).mono ?_); (case side1 => exact zS (Kd.C_below HR0_1.out HB.out)); (case side2 => exact HC0_1.out); (case side3 => exact zS (Kd.R_reads' HO_6.out).2.2); (case side4 => exact (Kd.R_reads' HO_6.out).2.1); rintro e w22 ⟨rfl, hb⟩; refine ⟨_, rfl, ?_⟩; replace HO_5 := zA (Kd.R_below (zP HO_5.out) hb); replace HO_6 := zA (Kd.R_below (zP HO_6.out) hb); replace BK396 := zA (blk_below (g := gb396) (o := .cells #[.int .i64 a0_0, .slice A0_1 l0_1.length c0_1] 26 (0, 0)) (zR BK396.out) hb); replace HB := zA (below_step (zT HB.out GE396.out) hb); (try clear hb)))
       go_roundg k2
       case measure => have := HK1.out; have := HK2.out; omega
       case rel => exact ⟨(x5_2), (x6_2), (wrap64 (x7_2 + 1)), (by first | rfl | (simp; done) | (simp [*]; done)), H', ⟨by have := HK1.out; have := HK2.out; omega⟩, ⟨by (with_reducible repeat (first | apply zF | apply zG | apply zH)); exact HO_5.out⟩, ⟨by (with_reducible repeat (first | apply zF | apply zG | apply zH)); exact HO_6.out⟩, ⟨by (with_reducible repeat (first | refine zJ ?_ _ | refine zK ?_ | refine zI ?_ _)); exact BK396.out⟩, ⟨zT HB.out GE396.out⟩⟩
      rw [if_neg c10] at H
      have c10b0 : decide (x7_2 < a0_0) = false := decide_eq_false c10
      clear c10
      have H' := zA H
      clear H
      have hcz23_0 : wr.cell? ⟨gb396, 0, none⟩ = some (.int .i64 a0_0) := (blk_cell BK396.out 0).trans rfl
      have hcz23_1 : wr.cell? ⟨gb396, 1, none⟩ = some (.slice A0_1 l0_1.length c0_1) := (blk_cell BK396.out 1).trans rfl
      have hfz23_0 := blk_frozen BK396.out 0
      have hfz23_1 := blk_frozen BK396.out 1
      go_wp2
      go_roundg k2
      case measure => have := HK1.out; have := HK2.out; omega
      case rel => exact ⟨(x5_2), (x6_2), H', ⟨by have := HK1.out; have := HK2.out; omega⟩, ⟨by (with_reducible repeat (first | apply zF | apply zG | apply zH)); exact HO_5.out⟩, ⟨by (with_reducible repeat (first | apply zF | apply zG | apply zH)); exact HO_6.out⟩, ⟨by (with_reducible repeat (first | refine zJ ?_ _ | refine zK ?_ | refine zI ?_ _)); exact BK396.out⟩, ⟨zT HB.out GE396.out⟩⟩
   rw [if_neg c8] at H
   have c8b0 : decide (0 < (x6_1.length : Int)) = false := decide_eq_false c8
   have c8b1 : decide (0 < x6_1.length) = false := decide_eq_false (by omega)
   clear c8
   obtain rfl := Option.some.inj H
   obtain ⟨Ao24, co24, eo24⟩ := Kd.R_slice HO_6.out
   subst eo24
   go_wp2
   go_ret
   exact ⟨_, zr, by (with_reducible repeat (first | apply zF | apply zG | apply zH)); exact Kd.R_mono HO_5.out (fun _ hk => trivial), zT HB.out GE396.out⟩

/-! ### spec_l03Word: function 107 -/
def spec_l03Word.l0 : Nat → Int → List Int → Int → Option (Bool)
 | 0, _, _, _ => none
 | k + 1, x0, x1, x5 => if x5 < (x1.length : Int) then (if 0 ≤ x5 then ((spec_l01In.f (rd x1 x5) 0 (wrap64 (x0 - 1))).bind fun t411 => (if t411 = true then (spec_l03Word.l0 k x0 x1 (wrap64 (x5 + 1))) else (some false))) else (none)) else (some true)
def spec_l03Word.f (k : Nat) (a0 : Int) (l1 : List Int) : Option (Bool) := if (l1.length : Int) > 24 then (some false) else (spec_l03Word.l0 k a0 l1 0)

set_option maxHeartbeats 8000000 in
set_option maxRecDepth 100000 in
theorem spec_l03Word.calls (k : Nat) (a0 : Int) (A1 : Option Addr) (c1 : Nat) (l1 : List Int) (r : Bool) (w : World) (hr1 : Kd.C (Kd.int .i64) w A1 l1.length l1) (hc1 : l1.length ≤ c1) (h : spec_l03Word.f k a0 l1 = some r) :
  Calls Tryd.prog 107 #[.int .i64 a0, .slice A1 l1.length c1] w fun e w' => e = .returned (.bool r) ∧ Drawn0 w w' := by
 have HR1 := zA hr1
 have HC1 := zA hc1
 clear hr1 hc1
 have H : (if (l1.length : Int) > 24 then (some false) else (spec_l03Word.l0 k a0 l1 0)) = some r := h
 clear h
 by_cases c3 : (l1.length : Int) > 24
 ·rw [if_pos c3] at H
  have c3b0 : decide (24 < (l1.length : Int)) = true := decide_eq_true c3
  have c3b1 : decide (24 < l1.length) = true := decide_eq_true (by omega)
  clear c3
  obtain rfl := Option.some.inj H
  go_enter Tryd.func107, Tryd.ntmps107
  go_wp2
  go_ret
  exact ⟨by first | rfl | (simp; done) | (simp [*]; done), by repeat (first | exact Drawn0.refl _ | apply Drawn0.step)⟩
 rw [if_neg c3] at H
 have c3b0 : decide (24 < (l1.length : Int)) = false := decide_eq_false c3
 have c3b1 : decide (24 < l1.length) = false := decide_eq_false (by omega)
 clear c3
 have H' := zA H
 clear H
 go_enter Tryd.func107, Tryd.ntmps107
 go_wp2
 go_loopg [5] k (fun kq v5 w' => ∃ (x5_1 : Int), v5 = .int .i64 x5_1 ∧ Aside0 (spec_l03Word.l0 kq a0 l1 x5_1 = some r) ∧ Aside0 (kq ≤ k) ∧ Drawn0 w w')
 case atStart => exact ⟨(0), (by first | rfl | (simp; done) | (simp [*]; done)), H', ⟨Nat.le_refl _⟩, by repeat (first | exact Drawn0.refl _ | apply Drawn0.step)⟩
 case round =>
  clear H'
  try clear c1
  try clear p2
  try clear c3
  try clear c3b0
  try clear c3b1
  obtain ⟨x5_1, rfl, HA, HK1, ⟨m1, rfl⟩⟩ := hrel
  cases gk with
  | zero => exact absurd HA.out (by simp [spec_l03Word.l0])
  | succ k1 =>
   have H := HA.out
   clear HA
   simp only [spec_l03Word.l0] at H
   by_cases c4 : x5_1 < (l1.length : Int)
   ·rw [if_pos c4] at H
    have c4b0 : decide (x5_1 < (l1.length : Int)) = true := decide_eq_true c4
    clear c4
    by_cases c5 : 0 ≤ x5_1
    ·rw [if_pos c5] at H
     have c5b0 : decide (0 ≤ x5_1) = true := decide_eq_true c5
     clear c5
     obtain ⟨t411, A6, H⟩ := zb H
     try dsimp only at H
     by_cases c7 : t411 = true
     ·subst c7
      have H1 : (spec_l03Word.l0 k1 a0 l1 (wrap64 (x5_1 + 1))) = some r := by rw [if_pos rfl] at H; exact H
      clear H
      have H := H1
      clear H1
      have H' := zA H
      clear H
      have p410 : 0 ≤ (x5_1 : Int) := zd
      have q410 : x5_1 < (l1.length : Int) := zd
      obtain ⟨ad410, e410, hx410_0⟩ := Kd.at_int HR1.out x5_1 p410 q410
      cases e410
      replace p410 := eq_true p410
      replace q410 := eq_true q410
      go_wp2_with (first | ((with_reducible refine gate_callee (f := 64) rfl ?_); refine zO (some 21) Tryd.func64 #[.int .i64 (rd l1 x5_1), .int .i64 0, .int .i64 (wrap64 (a0 - 1))] ?_; (with_reducible refine (spec_l01In.calls (rd l1 x5_1) 0 (wrap64 (a0 - 1)) true _ A6.out).mono ?_); rintro e w' ⟨rfl, ⟨nd, rfl⟩⟩; refine ⟨_, rfl, ?_⟩))
      go_roundg k1
      case measure => have := HK1.out; omega
      case rel => exact ⟨(wrap64 (x5_1 + 1)), (by first | rfl | (simp; done) | (simp [*]; done)), H', ⟨by have := HK1.out; omega⟩, by repeat (first | exact Drawn0.refl _ | apply Drawn0.step)⟩
     replace c7 := Bool.eq_false_iff.mpr c7
     subst c7
     have H1 : (some false) = some r := by rw [if_neg (show ¬ (false = true) by decide)] at H; exact H
     clear H
     have H := H1
     clear H1
     obtain rfl := Option.some.inj H
     have p410 : 0 ≤ (x5_1 : Int) := zd
     have q410 : x5_1 < (l1.length : Int) := zd
     obtain ⟨ad410, e410, hx410_0⟩ := Kd.at_int HR1.out x5_1 p410 q410
     cases e410
     replace p410 := eq_true p410
     replace q410 := eq_true q410
     go_wp2_with (first | ((with_reducible refine gate_callee (f := 64) rfl ?_); refine zO (some 21) Tryd.func64 #[.int .i64 (rd l1 x5_1), .int .i64 0, .int .i64 (wrap64 (a0 - 1))] ?_; (with_reducible refine (spec_l01In.calls (rd l1 x5_1) 0 (wrap64 (a0 - 1)) false _ A6.out).mono ?_); rintro e w' ⟨rfl, ⟨nd, rfl⟩⟩; refine ⟨_, rfl, ?_⟩))
     go_ret
     exact ⟨by first | rfl | (simp; done) | (simp [*]; done), by repeat (first | exact Drawn0.refl _ | apply Drawn0.step)⟩
    rw [if_neg c5] at H
    exact absurd H (by simp)
   rw [if_neg c4] at H
   have c4b0 : decide (x5_1 < (l1.length : Int)) = false := decide_eq_false c4
   clear c4
   obtain rfl := Option.some.inj H
   go_wp2
   go_ret
   exact ⟨by first | rfl | (simp; done) | (simp [*]; done), by repeat (first | exact Drawn0.refl _ | apply Drawn0.step)⟩

/-! ### spec_l03Is: function 77 -/
def spec_l03Is.f (k : Nat) (a0_0 : Int) (l0_1 : List Int) (l1 : List Int) : Option (Bool) := (spec_l02Is.f k a0_0 l0_1).bind fun t413 => (if t413 = true then ((spec_l03Word.f k a0_0 l1).bind fun t414 => (some t414)) else (some false))

set_option maxHeartbeats 8000000 in
set_option maxRecDepth 100000 in
theorem spec_l03Is.calls (k : Nat) (a0_0 : Int) (A0_1 : Option Addr) (c0_1 : Nat) (l0_1 : List Int) (A1 : Option Addr) (c1 : Nat) (l1 : List Int) (r : Bool) (w : World) (hr0_1 : Kd.C (Kd.int .i64) w A0_1 l0_1.length l0_1) (hc0_1 : l0_1.length ≤ c0_1) (hr1 : Kd.C (Kd.int .i64) w A1 l1.length l1) (hc1 : l1.length ≤ c1) (h : spec_l03Is.f k a0_0 l0_1 l1 = some r) :
  Calls Tryd.prog 77 #[.agg #[.int .i64 a0_0, .slice A0_1 l0_1.length c0_1], .slice A1 l1.length c1] w fun e w' => e = .returned (.bool r) ∧ Below w.heap.size w w' := by
 have hu26 := Tryd.underlying26
 have HR0_1 := zA hr0_1
 have HC0_1 := zA hc0_1
 clear hr0_1 hc0_1
 have HR1 := zA hr1
 have HC1 := zA hc1
 clear hr1 hc1
 have HB := zA (Below.refl w.heap.size w)
 have H : ((spec_l02Is.f k a0_0 l0_1).bind fun t413 => (if t413 = true then ((spec_l03Word.f k a0_0 l1).bind fun t414 => (some t414)) else (some false))) = some r := h
 clear h
 obtain ⟨t413, A3, H⟩ := zb H
 try dsimp only at H
 by_cases c4 : t413 = true
 ·subst c4
  have H1 : ((spec_l03Word.f k a0_0 l1).bind fun t414 => (some t414)) = some r := by rw [if_pos rfl] at H; exact H
  clear H
  have H := H1
  clear H1
  obtain ⟨t414, A5, H⟩ := zb H
  try dsimp only at H
  obtain rfl := Option.some.inj H
  go_enter Tryd.func77, Tryd.ntmps77
  go_wp2_with (first | ((with_reducible refine gate_dst (N := 2) rfl ?_); refine box_event ?hg (N := 2) ?hd (cs := #[.int .i64 a0_0, .slice A0_1 l0_1.length c0_1]) (t := 26) ?hr ?_; (case hd => rfl); (case hg => rfl); (case hr => first | (go_simp; done) | (go_simp; rfl)); intro gb412 hg w6 hbox hb; have BK412 := zA (hbox); have GW412 := zA ((by rw [hg]; exact (below_size (zQ HB.out)) : w.heap.size ≤ gb412)); have GE412 := zA ((by rw [hg]; exact (below_size (zQ HB.out)) : w.heap.size ≤ gb412)); replace HB := zA (below_step (zQ HB.out) hb); clear hb hbox hg; have hcz7_0 : w6.cell? ⟨gb412, 0, none⟩ = some (.int .i64 a0_0) := (blk_cell BK412.out 0).trans rfl; have hcz7_1 : w6.cell? ⟨gb412, 1, none⟩ = some (.slice A0_1 l0_1.length c0_1) := (blk_cell BK412.out 1).trans rfl; have hfz7_0 := blk_frozen BK412.out 0; have hfz7_1 := blk_frozen BK412.out 1) | ((with_reducible refine gate_callee (f := 106) rfl ?_); refine zO (some 6) Tryd.func106 #[.agg #[.int .i64 a0_0, .slice A0_1 l0_1.length c0_1]] ?_; (with_reducible refine (spec_l02Is.calls k a0_0 _ _ l0_1 true _ ?side1 ?side2 A3.out).mono ?_); (case side1 => exact zS (Kd.C_below HR0_1.out HB.out)); (case side2 => exact HC0_1.out); rintro e w8 ⟨rfl, hb⟩; refine ⟨_, rfl, ?_⟩; replace BK412 := zA (blk_below (g := gb412) (o := .cells #[.int .i64 a0_0, .slice A0_1 l0_1.length c0_1] 26 (0, 0)) (zR BK412.out) hb); replace HB := zA (below_step (zT HB.out GE412.out) hb); (try clear hb); have hcz9_0 : w8.cell? ⟨gb412, 0, none⟩ = some (.int .i64 a0_0) := (blk_cell BK412.out 0).trans rfl; have hcz9_1 : w8.cell? ⟨gb412, 1, none⟩ = some (.slice A0_1 l0_1.length c0_1) := (blk_cell BK412.out 1).trans rfl; have hfz9_0 := blk_frozen BK412.out 0; have hfz9_1 := blk_frozen BK412.out 1) | (go_at_call 107; (with_reducible refine (spec_l03Word.calls k a0_0 _ _ l1 t414 _ ?side1 ?side2 A5.out).mono ?_); (case side1 => exact zS (Kd.C_below HR1.out HB.out)); (case side2 => exact HC1.out); rintro e w' ⟨rfl, ⟨nd, rfl⟩⟩))
  go_ret
  exact ⟨zr, zT HB.out GE412.out⟩
 replace c4 := Bool.eq_false_iff.mpr c4
 subst c4
 have H1 : (some false) = some r := by rw [if_neg (show ¬ (false = true) by decide)] at H; exact H
 clear H
 have H := H1
 clear H1
 obtain rfl := Option.some.inj H
 go_enter Tryd.func77, Tryd.ntmps77
 go_wp2_with (first | ((with_reducible refine gate_dst (N := 2) rfl ?_); refine box_event ?hg (N := 2) ?hd (cs := #[.int .i64 a0_0, .slice A0_1 l0_1.length c0_1]) (t := 26) ?hr ?_; (case hd => rfl); (case hg => rfl); (case hr => first | (go_simp; done) | (go_simp; rfl)); intro gb412 hg w10 hbox hb; have BK412 := zA (hbox); have GW412 := zA ((by rw [hg]; exact (below_size (zQ HB.out)) : w.heap.size ≤ gb412)); have GE412 := zA ((by rw [hg]; exact (below_size (zQ HB.out)) : w.heap.size ≤ gb412)); replace HB := zA (below_step (zQ HB.out) hb); clear hb hbox hg; have hcz11_0 : w10.cell? ⟨gb412, 0, none⟩ = some (.int .i64 a0_0) := (blk_cell BK412.out 0).trans rfl; have hcz11_1 : w10.cell? ⟨gb412, 1, none⟩ = some (.slice A0_1 l0_1.length c0_1) := (blk_cell BK412.out 1).trans rfl; have hfz11_0 := blk_frozen BK412.out 0; have hfz11_1 := blk_frozen BK412.out 1) | ((with_reducible refine gate_callee (f := 106) rfl ?_); refine zO (some 6) Tryd.func106 #[.agg #[.int .i64 a0_0, .slice A0_1 l0_1.length c0_1]] ?_; (with_reducible refine (spec_l02Is.calls k a0_0 _ _ l0_1 false _ ?side1 ?side2 A3.out).mono ?_); (case side1 => exact zS (Kd.C_below HR0_1.out HB.out)); (case side2 => exact HC0_1.out); rintro e w12 ⟨rfl, hb⟩; refine ⟨_, rfl, ?_⟩; replace BK412 := zA (blk_below (g := gb412) (o := .cells #[.int .i64 a0_0, .slice A0_1 l0_1.length c0_1] 26 (0, 0)) (zR BK412.out) hb); replace HB := zA (below_step (zT HB.out GE412.out) hb); (try clear hb)))
 go_ret
 exact ⟨zr, zT HB.out GE412.out⟩

/-! ### impl_ties_normal: function 56 -/
def impl_ties_normal.l0 : Nat → List Int → List Int → List Int → Option (List Int)
 | 0, _, _, _ => none
 | k + 1, x0, x5, x6 => if (x6.length : Int) > 0 then ((impl_ties_firsts.f k x0 x6).bind fun t472 => ((impl_least.f t472).bind fun t473 => (if x5.length < 17592186044416 then ((impl_withoutFirst.f k x6 t473).bind fun t477 => (impl_ties_normal.l0 k x0 (x5 ++ [t473]) t477)) else (none)))) else (some x5)
def impl_ties_normal.f (k : Nat) (l0 : List Int) (l1 : List Int) : Option (List Int) := if 0 ≤ (l1.length : Int) then (if ((l1.length : Int) : Int).toNat ≤ 35184372088832 then (impl_ties_normal.l0 k l0 (([] : List Int)) l1) else (none)) else (none)

set_option maxHeartbeats 8000000 in
set_option maxRecDepth 100000 in
theorem impl_ties_normal.calls (k : Nat) (A0 : Option Addr) (c0 : Nat) (l0 : List Int) (P1_ : Nat → Prop) (A1 : Option Addr) (c1 : Nat) (l1 : List Int) (r : List Int) (w : World) (hr0 : Kd.C (Kd.int .i64) w A0 l0.length l0) (hc0 : l0.length ≤ c0) (hs1 : Kd.V (Kd.int .i64) 2 w w.heap.size (fun k_ => P1_ k_) (.slice A1 l1.length c1) l1) (hT : TabW w) (h : impl_ties_normal.f k l0 l1 = some r) :
  Calls Tryd.prog 56 #[.slice A0 l0.length c0, .slice A1 l1.length c1] w fun e w' => ∃ v0_ : Value, e = .returned (v0_) ∧ Kd.R (Kd.int .i64) 2 w' w.heap.size (fun k_ => (w.heap.size ≤ k_)) v0_ r ∧ Below w.heap.size w w' := by
 have HT := zA hT
 clear hT
 have HR0 := zA hr0
 have HC0 := zA hc0
 clear hr0 hc0
 have HO1 := zA (show Kd.V (Kd.int .i64) 2 w w.heap.size (fun k_ => (P1_ k_ ∨ w.heap.size ≤ k_)) (.slice A1 l1.length c1) l1 from Kd.V_mono hs1 (fun k_ hk => .inl hk))
 have HB := zA (Below.refl w.heap.size w)
 have H : (if 0 ≤ (l1.length : Int) then (if ((l1.length : Int) : Int).toNat ≤ 35184372088832 then (impl_ties_normal.l0 k l0 (([] : List Int)) l1) else (none)) else (none)) = some r := h
 clear h
 by_cases c3 : 0 ≤ (l1.length : Int)
 ·rw [if_pos c3] at H
  have c3b0 := eq_true c3
  have c3b1 : decide (0 ≤ (l1.length : Int)) = true := decide_eq_true c3
  clear c3
  by_cases c4 : ((l1.length : Int) : Int).toNat ≤ 35184372088832
  ·rw [if_pos c4] at H
   have c4b0 := eq_true c4
   have c4b1 : decide (((l1.length : Int) : Int).toNat ≤ 35184372088832) = true := decide_eq_true c4
   clear c4
   obtain ⟨y469, hy469⟩ : ∃ y_ : List Int, y_ = (([] : List Int)) := ⟨_, rfl⟩
   replace H : (impl_ties_normal.l0 k l0 y469 l1) = some r := zy hy469 H
   have Ny469 := zA hy469
   clear hy469
   have H' := zA H
   clear H
   go_enter Tryd.func56, Tryd.ntmps56
   go_wp2_with (first | ((with_reducible refine gate_dst (N := 10) rfl ?_); refine Kd.R_make0 (Kd.int .i64) _ 2 rfl (N := 10) rfl 24 _ _ rfl (l1.length : Int) rfl rfl Tryd.underlying24 (.int .i64 0) 8 info2 rfl (by decide) (by omega) 0 (ok := fun _ => True) (okp := fun _ => True) rfl (fun _ hk => hk) trivial (zd) (Nat.le_trans (Nat.mul_le_mul_right _ (zd : (l1.length : Int).toNat ≤ 35184372088832)) (by omega)) (Below.refl _ _) (Nat.le_refl _) ?_; intro v470 w5 ho6 hb hg_ hnew_; clear hg_ hnew_; (first | rw [← Ny469.out] at ho6 | (simp only [Int.reduceToNat] at ho6; rw [← Ny469.out] at ho6)); replace HO1 := zA (Kd.V_elder' (zPV HO1.out) (Kd.R_base ho6) hb); have HO471 := zA (Kd.R_lower (Kd.R_newM (M := fun k_ => (w.heap.size ≤ k_)) ho6 (below_size (zQ HB.out)) (fun k_ h_ => h_)) (below_size (zQ HB.out))); replace HB := zA (below_step (zQ HB.out) hb); clear hb ho6))
   go_loopg [5, 6] k (fun kq v5 v6 w' => ∃ (x5_1 : List Int) (x6_1 : List Int), Aside0 (impl_ties_normal.l0 kq l0 x5_1 x6_1 = some r) ∧ Aside0 (kq ≤ k) ∧ Aside0 (Kd.R (Kd.int .i64) 2 w' w.heap.size (fun k_ => (w.heap.size ≤ k_)) v5 x5_1) ∧ Aside0 (Kd.V (Kd.int .i64) 2 w' w.heap.size (fun k_ => (P1_ k_ ∨ w.heap.size ≤ k_) ∧ some k_ ≠ (v5 : Value).ownBlock) v6 x6_1) ∧ Aside0 (Below w.heap.size w w'))
   case atStart => exact ⟨(y469), (l1), H', ⟨Nat.le_refl _⟩, ⟨by (with_reducible repeat (first | apply zF | apply zG | apply zH)); exact Kd.R_mono HO471.out (fun _ hk => hk.1)⟩, ⟨by (with_reducible repeat (first | apply Kd.V_alloc | apply Kd.V_drewN | apply Kd.V_drew)); exact HO1.out⟩, ⟨zQ HB.out⟩⟩
   case round =>
    clear H'
    try clear c1
    try clear p2
    try clear c3
    try clear c3b0
    try clear c3b1
    try clear c4
    try clear c4b0
    try clear c4b1
    try clear c5
    obtain ⟨x5_1, x6_1, HA, HK1, HO_5, HO_6, HB⟩ := hrel
    cases gk with
    | zero => exact absurd HA.out (by simp [impl_ties_normal.l0])
    | succ k1 =>
     have H := HA.out
     clear HA
     simp only [impl_ties_normal.l0] at H
     by_cases c7 : (x6_1.length : Int) > 0
     ·rw [if_pos c7] at H
      have c7b0 : decide (0 < (x6_1.length : Int)) = true := decide_eq_true c7
      have c7b1 : decide (0 < x6_1.length) = true := decide_eq_true (by omega)
      clear c7
      obtain ⟨t472, A8, H⟩ := zb H
      try dsimp only at H
      obtain ⟨t473, A9, H⟩ := zb H
      try dsimp only at H
      by_cases c10 : x5_1.length < 17592186044416
      ·rw [if_pos c10] at H
       have LMc10 := zA c10
       clear c10
       obtain ⟨y474, hy474⟩ : ∃ y_ : List Int, y_ = (x5_1 ++ [t473]) := ⟨_, rfl⟩
       replace H : ((impl_withoutFirst.f k1 x6_1 t473).bind fun t477 => (impl_ties_normal.l0 k1 l0 y474 t477)) = some r := zy hy474 H
       have Ny474 := zA hy474
       clear hy474
       obtain ⟨t477, A11, H⟩ := zb H
       try dsimp only at H
       have H' := zA H
       clear H
       obtain ⟨Ao12, co12, eo12⟩ := Kd.V_slice HO_6.out
       subst eo12
       go_wp2_with (first | ((with_reducible refine gate_callee (f := 51) rfl ?_); refine zO (some 17) Tryd.func51 #[.slice A0 l0.length c0, .slice Ao12 x6_1.length co12] ?_; (with_reducible refine (impl_ties_firsts.calls k1 _ _ l0 _ _ x6_1 t472 _ ?side1 ?side2 ?side3 ?side4 A8.out).mono ?_); (case side1 => exact zS (Kd.C_below HR0.out HB.out)); (case side2 => exact HC0.out); (case side3 => exact zS (Kd.V_reads' HO_6.out).2.2); (case side4 => exact (Kd.V_reads' HO_6.out).2.1); rintro e w' ⟨rfl, ⟨nd, rfl⟩⟩; refine ⟨_, rfl, ?_⟩) | ((with_reducible refine gate_callee (f := 62) rfl ?_); refine zO (some 18) Tryd.func62 #[.int .i64 t472] ?_; (with_reducible refine (impl_least.calls t472 t473 _ ?side1 A9.out).mono ?_); (case side1 => exact TabW.below HT.out (zQ HB.out)); rintro e w' ⟨rfl, ⟨nd, rfl⟩⟩; refine ⟨_, rfl, ?_⟩) | ((with_reducible refine gate_builtin (b := .append) (xs := #[.tmp 19, .tmp 21]) rfl ?_); at_builtin; refine Kd.R_append (Kd.int .i64) (w0 := w) w.heap.size rfl (.tmp 19) (.tmp 21) 24 2 (.int .i64 0) 8 rfl Tryd.underlying24 info2 rfl (by decide) (by omega) u5 x5_1 t473 [.int .i64 t473] (fun k_ => (w.heap.size ≤ k_)) (fun _ => False) rfl rfl ?aP (fun _ hk => hk.elim) ?aF ?aO ?aB ?aS ?aL ?_; (case aP => exact rfl); (case aB => exact (zQ HB.out)); (case aF => exact (fun k_ hk => (Nat.le_trans (below_size (zQ HB.out)) hk))); (case aO => exact (zP HO_5.out)); (case aS => exact (below_size (zQ HB.out))); (case aL => have := LMc10.out; omega); intro v475 w13 ho hb hg hat; rw [← Ny474.out] at ho; replace HO_6 := zA (Kd.V_afterv (ok := (fun k_ => (P1_ k_ ∨ w.heap.size ≤ k_))) (zPV HO_6.out) hg hat); replace HB := zA (hb); have HO476 := zA (ho); clear HO_5; clear ho hb hg hat) | ((with_reducible refine gate_callee (f := 63) rfl ?_); refine zO (some 25) Tryd.func63 #[.slice Ao12 x6_1.length co12, .int .i64 t473] ?_; (with_reducible refine (impl_withoutFirst.calls k1 (fun k_ => ((P1_ k_ ∨ w.heap.size ≤ k_) ∧ some k_ ≠ (v475 : Value).ownBlock)) _ _ x6_1 t473 t477 _ ?side1 A11.out).mono ?_); (case side1 => exact HO_6.out); rintro e w14 ⟨v478, rfl, ho0, hb⟩; refine ⟨_, rfl, ?_⟩; replace HO_6 := zA (Kd.V_elder' (zPV HO_6.out) (Kd.R_base ho0) hb); have HO479 := zA (Kd.R_lower (Kd.R_new' (Kd.R_newM (M := fun k_ => (w.heap.size ≤ k_)) (Kd.R_mono (ok' := fun k_ => True) ho0 (fun _ hk_ => trivial)) (below_size (zQ HB.out)) (fun k_ h_ => h_)) (Kd.R_lt (zP HO476.out))) (below_size (zQ HB.out))); replace HO476 := zA (Kd.R_elder' (zP HO476.out) (Kd.R_base ho0) hb); replace HB := zA (below_step (zQ HB.out) hb); (try clear hb); (try clear ho0)))
       go_roundg k1
       case measure => have := HK1.out; omega
       case rel => exact ⟨(y474), (t477), H', ⟨by have := HK1.out; omega⟩, ⟨by (with_reducible repeat (first | apply zF | apply zG | apply zH)); exact Kd.R_mono HO476.out (fun _ hk => hk.1)⟩, ⟨Kd.V_mono (Kd.R_V (zP HO479.out)) (fun k_ hk => by first | exact ⟨(.inr (hk.1.1)), hk.2⟩ | exact ⟨(.inr (hk.1)), hk.2⟩ | exact (.inr (hk)))⟩, ⟨zQ HB.out⟩⟩
      rw [if_neg c10] at H
      exact absurd H (by simp)
     rw [if_neg c7] at H
     have c7b0 : decide (0 < (x6_1.length : Int)) = false := decide_eq_false c7
     have c7b1 : decide (0 < x6_1.length) = false := decide_eq_false (by omega)
     clear c7
     obtain rfl := Option.some.inj H
     obtain ⟨Ao15, co15, eo15⟩ := Kd.V_slice HO_6.out
     subst eo15
     go_wp2
     go_ret
     exact ⟨_, zr, zP HO_5.out, zQ HB.out⟩
  rw [if_neg c4] at H
  exact absurd H (by simp)
 rw [if_neg c3] at H
 exact absurd H (by simp)

/-! ### spec_l03Code: function 52 -/
def spec_l03Code.f (k : Nat) (a0_0 : Int) (l0_1 : List Int) (l1 : List Int) (l2 : List Int) : Option (Int) := (spec_l02Is.f k a0_0 l0_1).bind fun t561 => (if t561 = true then ((spec_l03Word.f k a0_0 l1).bind fun t562 => (if t562 = true then ((spec_l03Word.f k a0_0 l2).bind fun t563 => (if t563 = true then (some 0) else (some 2))) else (some 2))) else (some 1))

set_option maxHeartbeats 8000000 in
set_option maxRecDepth 100000 in
theorem spec_l03Code.calls (k : Nat) (a0_0 : Int) (A0_1 : Option Addr) (c0_1 : Nat) (l0_1 : List Int) (A1 : Option Addr) (c1 : Nat) (l1 : List Int) (A2 : Option Addr) (c2 : Nat) (l2 : List Int) (r : Int) (w : World) (hr0_1 : Kd.C (Kd.int .i64) w A0_1 l0_1.length l0_1) (hc0_1 : l0_1.length ≤ c0_1) (hr1 : Kd.C (Kd.int .i64) w A1 l1.length l1) (hc1 : l1.length ≤ c1) (hr2 : Kd.C (Kd.int .i64) w A2 l2.length l2) (hc2 : l2.length ≤ c2) (h : spec_l03Code.f k a0_0 l0_1 l1 l2 = some r) :
  Calls Tryd.prog 52 #[.agg #[.int .i64 a0_0, .slice A0_1 l0_1.length c0_1], .slice A1 l1.length c1, .slice A2 l2.length c2] w fun e w' => e = .returned (.int .i64 r) ∧ Below w.heap.size w w' := by
 have hu26 := Tryd.underlying26
 have HR0_1 := zA hr0_1
 have HC0_1 := zA hc0_1
 clear hr0_1 hc0_1
 have HR1 := zA hr1
 have HC1 := zA hc1
 clear hr1 hc1
 have HR2 := zA hr2
 have HC2 := zA hc2
 clear hr2 hc2
 have HB := zA (Below.refl w.heap.size w)
 have H : ((spec_l02Is.f k a0_0 l0_1).bind fun t561 => (if t561 = true then ((spec_l03Word.f k a0_0 l1).bind fun t562 => (if t562 = true then ((spec_l03Word.f k a0_0 l2).bind fun t563 => (if t563 = true then (some 0) else (some 2))) else (some 2))) else (some 1))) = some r := h
 clear h
 obtain ⟨t561, A4, H⟩ := zb H
 try dsimp only at H
 by_cases c5 : t561 = true
 ·subst c5
  have H1 : ((spec_l03Word.f k a0_0 l1).bind fun t562 => (if t562 = true then ((spec_l03Word.f k a0_0 l2).bind fun t563 => (if t563 = true then (some 0) else (some 2))) else (some 2))) = some r := by rw [if_pos rfl] at H; exact H
  clear H
  have H := H1
  clear H1
  obtain ⟨t562, A6, H⟩ := zb H
  try dsimp only at H
  by_cases c7 : t562 = true
  ·subst c7
   have H1 : ((spec_l03Word.f k a0_0 l2).bind fun t563 => (if t563 = true then (some 0) else (some 2))) = some r := by rw [if_pos rfl] at H; exact H
   clear H
   have H := H1
   clear H1
   obtain ⟨t563, A8, H⟩ := zb H
   try dsimp only at H
   by_cases c9 : t563 = true
   ·subst c9
    have H1 : (some 0) = some r := by rw [if_pos rfl] at H; exact H
    clear H
    have H := H1
    clear H1
    obtain rfl := Option.some.inj H
    go_enter Tryd.func52, Tryd.ntmps52
    go_wp2_with (first | ((with_reducible refine gate_dst (N := 3) rfl ?_); refine box_event ?hg (N := 3) ?hd (cs := #[.int .i64 a0_0, .slice A0_1 l0_1.length c0_1]) (t := 26) ?hr ?_; (case hd => rfl); (case hg => rfl); (case hr => first | (go_simp; done) | (go_simp; rfl)); intro gb560 hg w10 hbox hb; have BK560 := zA (hbox); have GW560 := zA ((by rw [hg]; exact (below_size (zQ HB.out)) : w.heap.size ≤ gb560)); have GE560 := zA ((by rw [hg]; exact (below_size (zQ HB.out)) : w.heap.size ≤ gb560)); replace HB := zA (below_step (zQ HB.out) hb); clear hb hbox hg; have hcz11_0 : w10.cell? ⟨gb560, 0, none⟩ = some (.int .i64 a0_0) := (blk_cell BK560.out 0).trans rfl; have hcz11_1 : w10.cell? ⟨gb560, 1, none⟩ = some (.slice A0_1 l0_1.length c0_1) := (blk_cell BK560.out 1).trans rfl; have hfz11_0 := blk_frozen BK560.out 0; have hfz11_1 := blk_frozen BK560.out 1) | ((with_reducible refine gate_callee (f := 106) rfl ?_); refine zO (some 8) Tryd.func106 #[.agg #[.int .i64 a0_0, .slice A0_1 l0_1.length c0_1]] ?_; (with_reducible refine (spec_l02Is.calls k a0_0 _ _ l0_1 true _ ?side1 ?side2 A4.out).mono ?_); (case side1 => exact zS (Kd.C_below HR0_1.out HB.out)); (case side2 => exact HC0_1.out); rintro e w12 ⟨rfl, hb⟩; refine ⟨_, rfl, ?_⟩; replace BK560 := zA (blk_below (g := gb560) (o := .cells #[.int .i64 a0_0, .slice A0_1 l0_1.length c0_1] 26 (0, 0)) (zR BK560.out) hb); replace HB := zA (below_step (zT HB.out GE560.out) hb); (try clear hb); have hcz13_0 : w12.cell? ⟨gb560, 0, none⟩ = some (.int .i64 a0_0) := (blk_cell BK560.out 0).trans rfl; have hcz13_1 : w12.cell? ⟨gb560, 1, none⟩ = some (.slice A0_1 l0_1.length c0_1) := (blk_cell BK560.out 1).trans rfl; have hfz13_0 := blk_frozen BK560.out 0; have hfz13_1 := blk_frozen BK560.out 1) | ((with_reducible refine gate_callee (f := 107) rfl ?_); refine zO (some 13) Tryd.func107 #[.int .i64 a0_0, .slice A1 l1.length c1] ?_; (with_reducible refine (spec_l03Word.calls k a0_0 _ _ l1 true _ ?side1 ?side2 A6.out).mono ?_); (case side1 => exact zS (Kd.C_below HR1.out HB.out)); (case side2 => exact HC1.out); rintro e w' ⟨rfl, ⟨nd, rfl⟩⟩; refine ⟨_, rfl, ?_⟩) | (go_at_call 107; (with_reducible refine (spec_l03Word.calls k a0_0 _ _ l2 true _ ?side1 ?side2 A8.out).mono ?_); (case side1 => exact zS (Kd.C_below HR2.out (zT HB.out GE560.out))); (case side2 => exact HC2.out); rintro e w' ⟨rfl, ⟨nd, rfl⟩⟩))
    go_ret
    exact ⟨zr, zT HB.out GE560.out⟩
   replace c9 := Bool.eq_false_iff.mpr c9
   subst c9
   have H1 : (some 2) = some r := by rw [if_neg (show ¬ (false = true) by decide)] at H; exact H
   clear H
   have H := H1
   clear H1
   obtain rfl := Option.some.inj H
   go_enter Tryd.func52, Tryd.ntmps52
   go_wp2_with (first | ((with_reducible refine gate_dst (N := 3) rfl ?_); refine box_event ?hg (N := 3) ?hd (cs := #[.int .i64 a0_0, .slice A0_1 l0_1.length c0_1]) (t := 26) ?hr ?_; (case hd => rfl); (case hg => rfl); (case hr => first | (go_simp; done) | (go_simp; rfl)); intro gb560 hg w14 hbox hb; have BK560 := zA (hbox); have GW560 := zA ((by rw [hg]; exact (below_size (zQ HB.out)) : w.heap.size ≤ gb560)); have GE560 := zA ((by rw [hg]; exact (below_size (zQ HB.out)) : w.heap.size ≤ gb560)); replace HB := zA (below_step (zQ HB.out) hb); clear hb hbox hg; have hcz15_0 : w14.cell? ⟨gb560, 0, none⟩ = some (.int .i64 a0_0) := (blk_cell BK560.out 0).trans rfl; have hcz15_1 : w14.cell? ⟨gb560, 1, none⟩ = some (.slice A0_1 l0_1.length c0_1) := (blk_cell BK560.out 1).trans rfl; have hfz15_0 := blk_frozen BK560.out 0; have hfz15_1 := blk_frozen BK560.out 1) | ((with_reducible refine gate_callee (f := 106) rfl ?_); refine zO (some 8) Tryd.func106 #[.agg #[.int .i64 a0_0, .slice A0_1 l0_1.length c0_1]] ?_; (with_reducible refine (spec_l02Is.calls k a0_0 _ _ l0_1 true _ ?side1 ?side2 A4.out).mono ?_); (case side1 => exact zS (Kd.C_below HR0_1.out HB.out)); (case side2 => exact HC0_1.out); rintro e w16 ⟨rfl, hb⟩; refine ⟨_, rfl, ?_⟩; replace BK560 := zA (blk_below (g := gb560) (o := .cells #[.int .i64 a0_0, .slice A0_1 l0_1.length c0_1] 26 (0, 0)) (zR BK560.out) hb); replace HB := zA (below_step (zT HB.out GE560.out) hb); (try clear hb); have hcz17_0 : w16.cell? ⟨gb560, 0, none⟩ = some (.int .i64 a0_0) := (blk_cell BK560.out 0).trans rfl; have hcz17_1 : w16.cell? ⟨gb560, 1, none⟩ = some (.slice A0_1 l0_1.length c0_1) := (blk_cell BK560.out 1).trans rfl; have hfz17_0 := blk_frozen BK560.out 0; have hfz17_1 := blk_frozen BK560.out 1) | ((with_reducible refine gate_callee (f := 107) rfl ?_); refine zO (some 13) Tryd.func107 #[.int .i64 a0_0, .slice A1 l1.length c1] ?_; (with_reducible refine (spec_l03Word.calls k a0_0 _ _ l1 true _ ?side1 ?side2 A6.out).mono ?_); (case side1 => exact zS (Kd.C_below HR1.out HB.out)); (case side2 => exact HC1.out); rintro e w' ⟨rfl, ⟨nd, rfl⟩⟩; refine ⟨_, rfl, ?_⟩) | (go_at_call 107; (with_reducible refine (spec_l03Word.calls k a0_0 _ _ l2 false _ ?side1 ?side2 A8.out).mono ?_); (case side1 => exact zS (Kd.C_below HR2.out (zT HB.out GE560.out))); (case side2 => exact HC2.out); rintro e w' ⟨rfl, ⟨nd, rfl⟩⟩))
   go_ret
   exact ⟨zr, zT HB.out GE560.out⟩
  replace c7 := Bool.eq_false_iff.mpr c7
  subst c7
  have H1 : (some 2) = some r := by rw [if_neg (show ¬ (false = true) by decide)] at H; exact H
  clear H
  have H := H1
  clear H1
  obtain rfl := Option.some.inj H
  go_enter Tryd.func52, Tryd.ntmps52
  go_wp2_with (first | ((with_reducible refine gate_dst (N := 3) rfl ?_); refine box_event ?hg (N := 3) ?hd (cs := #[.int .i64 a0_0, .slice A0_1 l0_1.length c0_1]) (t := 26) ?hr ?_; (case hd => rfl); (case hg => rfl); (case hr => first | (go_simp; done) | (go_simp; rfl)); intro gb560 hg w18 hbox hb; have BK560 := zA (hbox); have GW560 := zA ((by rw [hg]; exact (below_size (zQ HB.out)) : w.heap.size ≤ gb560)); have GE560 := zA ((by rw [hg]; exact (below_size (zQ HB.out)) : w.heap.size ≤ gb560)); replace HB := zA (below_step (zQ HB.out) hb); clear hb hbox hg; have hcz19_0 : w18.cell? ⟨gb560, 0, none⟩ = some (.int .i64 a0_0) := (blk_cell BK560.out 0).trans rfl; have hcz19_1 : w18.cell? ⟨gb560, 1, none⟩ = some (.slice A0_1 l0_1.length c0_1) := (blk_cell BK560.out 1).trans rfl; have hfz19_0 := blk_frozen BK560.out 0; have hfz19_1 := blk_frozen BK560.out 1) | ((with_reducible refine gate_callee (f := 106) rfl ?_); refine zO (some 8) Tryd.func106 #[.agg #[.int .i64 a0_0, .slice A0_1 l0_1.length c0_1]] ?_; (with_reducible refine (spec_l02Is.calls k a0_0 _ _ l0_1 true _ ?side1 ?side2 A4.out).mono ?_); (case side1 => exact zS (Kd.C_below HR0_1.out HB.out)); (case side2 => exact HC0_1.out); rintro e w20 ⟨rfl, hb⟩; refine ⟨_, rfl, ?_⟩; replace BK560 := zA (blk_below (g := gb560) (o := .cells #[.int .i64 a0_0, .slice A0_1 l0_1.length c0_1] 26 (0, 0)) (zR BK560.out) hb); replace HB := zA (below_step (zT HB.out GE560.out) hb); (try clear hb); have hcz21_0 : w20.cell? ⟨gb560, 0, none⟩ = some (.int .i64 a0_0) := (blk_cell BK560.out 0).trans rfl; have hcz21_1 : w20.cell? ⟨gb560, 1, none⟩ = some (.slice A0_1 l0_1.length c0_1) := (blk_cell BK560.out 1).trans rfl; have hfz21_0 := blk_frozen BK560.out 0; have hfz21_1 := blk_frozen BK560.out 1) | ((with_reducible refine gate_callee (f := 107) rfl ?_); refine zO (some 13) Tryd.func107 #[.int .i64 a0_0, .slice A1 l1.length c1] ?_; (with_reducible refine (spec_l03Word.calls k a0_0 _ _ l1 false _ ?side1 ?side2 A6.out).mono ?_); (case side1 => exact zS (Kd.C_below HR1.out HB.out)); (case side2 => exact HC1.out); rintro e w' ⟨rfl, ⟨nd, rfl⟩⟩; refine ⟨_, rfl, ?_⟩))
  go_ret
  exact ⟨zr, zT HB.out GE560.out⟩
 replace c5 := Bool.eq_false_iff.mpr c5
 subst c5
 have H1 : (some 1) = some r := by rw [if_neg (show ¬ (false = true) by decide)] at H; exact H
 clear H
 have H := H1
 clear H1
 obtain rfl := Option.some.inj H
 go_enter Tryd.func52, Tryd.ntmps52
 go_wp2_with (first | ((with_reducible refine gate_dst (N := 3) rfl ?_); refine box_event ?hg (N := 3) ?hd (cs := #[.int .i64 a0_0, .slice A0_1 l0_1.length c0_1]) (t := 26) ?hr ?_; (case hd => rfl); (case hg => rfl); (case hr => first | (go_simp; done) | (go_simp; rfl)); intro gb560 hg w22 hbox hb; have BK560 := zA (hbox); have GW560 := zA ((by rw [hg]; exact (below_size (zQ HB.out)) : w.heap.size ≤ gb560)); have GE560 := zA ((by rw [hg]; exact (below_size (zQ HB.out)) : w.heap.size ≤ gb560)); replace HB := zA (below_step (zQ HB.out) hb); clear hb hbox hg; have hcz23_0 : w22.cell? ⟨gb560, 0, none⟩ = some (.int .i64 a0_0) := (blk_cell BK560.out 0).trans rfl; have hcz23_1 : w22.cell? ⟨gb560, 1, none⟩ = some (.slice A0_1 l0_1.length c0_1) := (blk_cell BK560.out 1).trans rfl; have hfz23_0 := blk_frozen BK560.out 0; have hfz23_1 := blk_frozen BK560.out 1) | ((with_reducible refine gate_callee (f := 106) rfl ?_); refine zO (some 8) Tryd.func106 #[.agg #[.int .i64 a0_0, .slice A0_1 l0_1.length c0_1]] ?_; (with_reducible refine (spec_l02Is.calls k a0_0 _ _ l0_1 false _ ?side1 ?side2 A4.out).mono ?_); (case side1 => exact zS (Kd.C_below HR0_1.out HB.out)); (case side2 => exact HC0_1.out); rintro e w24 ⟨rfl, hb⟩; refine ⟨_, rfl, ?_⟩; replace BK560 := zA (blk_below (g := gb560) (o := .cells #[.int .i64 a0_0, .slice A0_1 l0_1.length c0_1] 26 (0, 0)) (zR BK560.out) hb); replace HB := zA (below_step (zT HB.out GE560.out) hb); (try clear hb)))
 go_ret
 exact ⟨zr, zT HB.out GE560.out⟩

end Go.Proofs.YtkiacoilecdepaaDoor.PAll
