-- Printed by a program of the session (wip/tools/pgen.py) out of the translation. Not trusted: Lean checks it.
import Derived.Test.YthgapkbkhoeleaaDoorPAllx0
import Derived.Test.YthgapkbkhoeleaaDoorPAllx8
import Derived.Test.YthgapkbkhoeleaaDoorPAllx12
import Derived.Test.YthgapkbkhoeleaaDoorPAllx13
import Derived.Test.YthgapkbkhoeleaaDoorPAllx15
import Derived.Test.YthgapkbkhoeleaaDoorPAllx25
import Derived.Test.YthgapkbkhoeleaaDoorPAllx26
namespace Go.Proofs.YthgapkbkhoeleaaDoor.PAll
open Go.RowKit Go.Proofs.YthgapkbkhoeleaaDoor.T Go.Proofs.YthgapkbkhoeleaaDoorW.PrintWords Go.Proofs.YthgapkbkhoeleaaDoorW.PrintLast Go.Proofs.YthgapkbkhoeleaaDoorW.PrintMore
attribute [local go_sem] max2_int min2_int max_two min_two max_three min_three max_four min_four   -- for this text's walks alone
set_option linter.unusedVariables false
set_option linter.unusedSimpArgs false

/-! ### laws_FnLevi: function 10 -/
def laws_FnLevi.j0 : Nat → List Int → List Int → List Int → List Int → List (List Int) → Int → Bool → Int → List Int → Option (Bool)
 | 0, _, _, _, _, _, _, _, _, _ => none
 | k + 1, x4, x5, x6, x7, x8, x9, x60, x752000, x752001 => if x60 = true then (none) else (if x9 = 0 then (if (x8.length : Int) = 4 then (if 1 < (x8.length : Int) then (if 2 < (x8.length : Int) then ((impl_AreIndependent.f k x752000 x752001 (rd_L1 x8 1) (rd_L1 x8 2)).bind fun bt763 => (if 0 < (x8.length : Int) then ((laws_join5.f (rd_L1 x8 0) (rd_L1 x8 1)).bind fun t767 => ((impl_AreSameTrace.f k x752000 x752001 t767 x4).bind fun bt770 => (if 3 < (x8.length : Int) then ((laws_join5.f (rd_L1 x8 2) (rd_L1 x8 3)).bind fun t774 => ((impl_AreSameTrace.f k x752000 x752001 t774 x5).bind fun bt777 => ((laws_join5.f (rd_L1 x8 0) (rd_L1 x8 2)).bind fun t781 => ((impl_AreSameTrace.f k x752000 x752001 t781 x6).bind fun bt784 => ((laws_join5.f (rd_L1 x8 1) (rd_L1 x8 3)).bind fun t788 => ((impl_AreSameTrace.f k x752000 x752001 t788 x7).bind fun bt791 => ((impl_MeetOf.f k x752000 x752001 x4 x6).bind fun bt793 => (if bt763.2 = 0 then (if bt770.2 = 0 then (if bt777.2 = 0 then (if bt784.2 = 0 then (if bt791.2 = 0 then (if bt793.2 = 0 then (if bt763.1 = true then (if bt770.1 = true then (if bt777.1 = true then (if bt784.1 = true then (if bt791.1 = true then ((laws_likeInts.f k bt793.1 (rd_L1 x8 0)).bind fun t798 => (some t798)) else (none)) else (none)) else (none)) else (none)) else (none)) else (none)) else (none)) else (none)) else (none)) else (none)) else (none))))))))) else (none)))) else (none))) else (none)) else (none)) else (none)) else (some true))
def laws_FnLevi.f (k : Nat) (l0 : List Int) : Option (Bool) := (laws_big.f l0).bind fun t734 => (if t734 = true then (some true) else ((spec_DrawLeviOf.f k l0).bind fun bt735 => ((impl_LeviOf.f k bt735.1 bt735.2.1 bt735.2.2.1 bt735.2.2.2.1 bt735.2.2.2.2.1 bt735.2.2.2.2.2).bind fun bt752 => ((spec_LeviOf.f k bt735.1 bt735.2.1 bt735.2.2.1 bt735.2.2.2.1 bt735.2.2.2.2.1 bt735.2.2.2.2.2).bind fun bt756 => (if bt752.2 = bt756.2 then ((laws_likeRows5.f k bt752.1 bt756.1).bind fun t760 => (laws_FnLevi.j0 k bt735.2.2.1 bt735.2.2.2.1 bt735.2.2.2.2.1 bt735.2.2.2.2.2 bt752.1 bt752.2 (!t760) bt735.1 bt735.2.1)) else (laws_FnLevi.j0 k bt735.2.2.1 bt735.2.2.2.1 bt735.2.2.2.2.1 bt735.2.2.2.2.2 bt752.1 bt752.2 true bt735.1 bt735.2.1))))))

def laws_FnLevi.T12 : Bool × List (List Nat × List Nat) := (true, [([], []), ([], []), ([1], [1]), ([2], [2]), ([], []), ([4], [4]), ([5], [5]), ([0, 3, 6], [0, 3, 6]), ([7], [7]), ([8], [8]), ([8], [8]), ([9, 7, 0, 1, 2, 3, 4, 5, 6, 7, 8, 9], [9]), ([10, 11, 0, 1, 2, 3, 4, 5, 6, 7, 8, 9, 10, 11], [10])])
def laws_FnLevi.B12 : List Nat := [0, 0, 2, 6, 0, 16, 48, 127, 255, 511, 511, 1023, 4095]
theorem laws_FnLevi.tab12 : rtab .any (opsOf Tryd.f10 12) = laws_FnLevi.T12 := by kernel_rfl
theorem laws_FnLevi.bits12 : waitsOk laws_FnLevi.T12.2 laws_FnLevi.B12 = true := by kernel_rfl
def laws_FnLevi.T13 : Bool × List (List Nat × List Nat) := (true, [([], []), ([], []), ([1], [1]), ([2], [2]), ([], []), ([4], [4]), ([5], [5]), ([3, 6], [3, 6]), ([], []), ([0, 7, 8, 7], [0, 7, 8]), ([9], [9]), ([10], [10]), ([10], [10]), ([11, 9, 0, 1, 2, 3, 4, 5, 6, 7, 8, 9, 10, 11], [11]), ([12, 13, 0, 1, 2, 3, 4, 5, 6, 7, 8, 9, 10, 11, 12, 13], [12])])
def laws_FnLevi.B13 : List Nat := [0, 0, 2, 6, 0, 16, 48, 126, 0, 511, 1023, 2047, 2047, 4095, 16383]
theorem laws_FnLevi.tab13 : rtab .any (opsOf Tryd.f10 13) = laws_FnLevi.T13 := by kernel_rfl
theorem laws_FnLevi.bits13 : waitsOk laws_FnLevi.T13.2 laws_FnLevi.B13 = true := by kernel_rfl
def laws_FnLevi.T14 : Bool × List (List Nat × List Nat) := (true, [([], []), ([], []), ([1], [1]), ([2], [2]), ([], []), ([4], [4]), ([5], [5]), ([3, 6], [3, 6]), ([], []), ([0, 7, 8, 7], [0, 7, 8]), ([9], [9]), ([10], [10]), ([10], [10]), ([11, 9, 0, 1, 2, 3, 4, 5, 6, 7, 8, 9, 10, 11], [11]), ([12, 13, 0, 1, 2, 3, 4, 5, 6, 7, 8, 9, 10, 11, 12, 13], [12])])
def laws_FnLevi.B14 : List Nat := [0, 0, 2, 6, 0, 16, 48, 126, 0, 511, 1023, 2047, 2047, 4095, 16383]
theorem laws_FnLevi.tab14 : rtab .any (opsOf Tryd.f10 14) = laws_FnLevi.T14 := by kernel_rfl
theorem laws_FnLevi.bits14 : waitsOk laws_FnLevi.T14.2 laws_FnLevi.B14 = true := by kernel_rfl
def laws_FnLevi.T15 : Bool × List (List Nat × List Nat) := (true, [([], []), ([], []), ([1], [1]), ([2], [2]), ([], []), ([4], [4]), ([5], [5]), ([3, 6], [3, 6]), ([], []), ([0, 7, 8, 7], [0, 7, 8]), ([9], [9]), ([10], [10]), ([10], [10]), ([11, 9, 0, 1, 2, 3, 4, 5, 6, 7, 8, 9, 10, 11], [11]), ([12, 13, 0, 1, 2, 3, 4, 5, 6, 7, 8, 9, 10, 11, 12, 13], [12])])
def laws_FnLevi.B15 : List Nat := [0, 0, 2, 6, 0, 16, 48, 126, 0, 511, 1023, 2047, 2047, 4095, 16383]
theorem laws_FnLevi.tab15 : rtab .any (opsOf Tryd.f10 15) = laws_FnLevi.T15 := by kernel_rfl
theorem laws_FnLevi.bits15 : waitsOk laws_FnLevi.T15.2 laws_FnLevi.B15 = true := by kernel_rfl
def laws_FnLevi.T16 : Bool × List (List Nat × List Nat) := (true, [([], []), ([], []), ([1], [1]), ([2], [2]), ([], []), ([4], [4]), ([5], [5]), ([3, 6], [3, 6]), ([], []), ([0, 7, 8, 7], [0, 7, 8]), ([9], [9]), ([10], [10]), ([10], [10]), ([11, 9, 0, 1, 2, 3, 4, 5, 6, 7, 8, 9, 10, 11], [11]), ([12, 13, 0, 1, 2, 3, 4, 5, 6, 7, 8, 9, 10, 11, 12, 13], [12])])
def laws_FnLevi.B16 : List Nat := [0, 0, 2, 6, 0, 16, 48, 126, 0, 511, 1023, 2047, 2047, 4095, 16383]
theorem laws_FnLevi.tab16 : rtab .any (opsOf Tryd.f10 16) = laws_FnLevi.T16 := by kernel_rfl
theorem laws_FnLevi.bits16 : waitsOk laws_FnLevi.T16.2 laws_FnLevi.B16 = true := by kernel_rfl
set_option maxHeartbeats 8000000 in
set_option maxRecDepth 100000 in
theorem laws_FnLevi.calls (k : Nat) (A0 : Option Addr) (c0 : Nat) (l0 : List Int) (r : Bool) (w : World) (hr0 : Kd.C (Kd.int .u8) w A0 l0.length l0) (hc0 : l0.length ≤ c0) (hT : TabW w) (h : laws_FnLevi.f k l0 = some r) :
  Calls Tryd.prog 10 #[.slice A0 l0.length c0] w fun e w' => e = .returned (.bool r) ∧ Below w.heap.size w w' := by
 have hu29 := Tryd.underlying29
 have HT := zA hT
 clear hT
 have HR0 := zA hr0
 have HC0 := zA hc0
 clear hr0 hc0
 have HB := zA (kW w.heap.size w)
 have H := h
 unfold laws_FnLevi.f at H
 clear h
 obtain ⟨t734, A2, H⟩ := zb H
 try dsimp only at H
 by_cases c3 : t734 = true
 ·subst c3
  rw [if_pos rfl] at H
  obtain rfl := Option.some.inj H
  go_enter Tryd.func10, Tryd.ntmps10
  go_wp2_with (first | (refine zO (some 25) Tryd.func40 #[.slice A0 l0.length c0] ?_; (with_reducible refine (laws_big.calls _ _ l0 true _ ?side1 ?side2 A2.out).mono ?_); (case side1 => exact zS HR0.out); (case side2 => exact HC0.out); rintro e w' ⟨rfl, ⟨nd, rfl⟩⟩; refine ⟨_, rfl, ?_⟩))
  go_ret
  exact ⟨zr, zQ HB.out⟩
 replace c3 := Bool.eq_false_iff.mpr c3
 subst c3
 rw [if_neg (show ¬ (false = true) by decide)] at H
 obtain ⟨⟨t735, t736, t739, t742, t745, t748⟩, A4, H⟩ := zb H
 try dsimp only at H
 obtain ⟨⟨t752, t755⟩, A5, H⟩ := zb H
 try dsimp only at H
 obtain ⟨⟨t756, t759⟩, A6, H⟩ := zb H
 try dsimp only at H
 have HC7 := zA H
 clear H
 go_enter Tryd.func10, Tryd.ntmps10
 go_upto_region 6 with (first | (refine zO (some 25) Tryd.func40 #[.slice A0 l0.length c0] ?_; (with_reducible refine (laws_big.calls _ _ l0 false _ ?side1 ?side2 A2.out).mono ?_); (case side1 => exact zS HR0.out); (case side2 => exact HC0.out); rintro e w' ⟨rfl, ⟨nd, rfl⟩⟩; refine ⟨_, rfl, ?_⟩) | (refine zO (some 28) Tryd.func48 #[.slice A0 l0.length c0] ?_; (with_reducible refine (spec_DrawLeviOf.calls k _ _ l0 t735 t736 t739 t742 t745 t748 _ ?side1 ?side2 A4.out).mono ?_); (case side1 => exact zS HR0.out); (case side2 => exact HC0.out); rintro e w8 ⟨v737, v740, v743, v746, v749, rfl, ho0, ho1, ho2, ho3, ho4, hb⟩; refine ⟨_, rfl, ?_⟩; have HO738 := zA (kI (kA (ok' := fun k_ => some k_ ≠ (v743 : Value).ownBlock ∧ some k_ ≠ (v749 : Value).ownBlock) ho0 (fun _ hk_ => hk_.2)) (kP (zQ HB.out))); have HO741 := zA (jM (kN (ok' := fun k_ => some k_ ≠ (v737 : Value).ownBlock ∧ some k_ ≠ (v743 : Value).ownBlock ∧ some k_ ≠ (v749 : Value).ownBlock) ho1 (fun k_ hk_ => ⟨hk_.2.1, hk_.2.2.1, hk_.2.2.2⟩)) (kP (zQ HB.out))); have HO744 := zA (kI (kA (ok' := fun k_ => some k_ ≠ (v737 : Value).ownBlock ∧ some k_ ≠ (v749 : Value).ownBlock) ho2 (fun _ hk_ => hk_.2)) (kP (zQ HB.out))); have HO747 := zA (jM (kN (ok' := fun k_ => some k_ ≠ (v737 : Value).ownBlock ∧ some k_ ≠ (v743 : Value).ownBlock ∧ some k_ ≠ (v749 : Value).ownBlock) ho3 (fun k_ hk_ => ⟨hk_.2.1, hk_.2.2.1, hk_.2.2.2⟩)) (kP (zQ HB.out))); have HO750 := zA (kI (kA (ok' := fun k_ => some k_ ≠ (v737 : Value).ownBlock ∧ some k_ ≠ (v743 : Value).ownBlock) ho4 (fun _ hk_ => hk_.2)) (kP (zQ HB.out))); replace HB := zA (kQ (zQ HB.out) hb); (try clear hb); (try clear ho0); (try clear ho1); (try clear ho2); (try clear ho3); (try clear ho4)) | (refine zBE 3 #[.int .i64 0, .slice none 0 0] 29 ?_; intro gb751 hg w9 hbox hb; replace HO738 := zA (kL (zP HO738.out) hb); replace HO741 := zA (kG (jD (zPV HO741.out) gb751 (Nat.le_of_eq hg.symm)) hb); replace HO744 := zA (kL (zP HO744.out) hb); replace HO747 := zA (kG (jD (zPV HO747.out) gb751 (Nat.le_of_eq hg.symm)) hb); replace HO750 := zA (kL (zP HO750.out) hb); have BK751 := zA (hbox); have GW751 := zA (zBH hg HB.out); have GE751 := zA (zBH hg HB.out); replace HB := zA (kQ (zQ HB.out) hb); clear hb hbox hg; obtain ⟨hcz10_0, hcz10_1, hfz10_0, hfz10_1⟩ := zB3 BK751.out; obtain ⟨Ao11, co11, eo11⟩ := kM HO738.out; subst eo11) | ((with_reducible refine gate_store (t := 29) (p := 3) rfl ?_); refine store_event (t := 29) (p := 3) (v := ?vo_w12) (w1 := ((w9.setCell ⟨gb751, 0, none⟩ (.int .i64 t735)).setCell ⟨gb751, 1, none⟩ (.slice Ao11 t736.length co11))) ?hg ?ho ?hn ?hr ?_; (case ho => rfl); (case hg => rfl); (case hn => rfl); (case hr => first | (go_simp; done) | (go_simp; rfl)); intro w12 hw; replace HO738 : Aside0 (Kd.R (Kd.int .i64) 2 w12 w.heap.size (fun k_ => some k_ ≠ (v743 : Value).ownBlock ∧ some k_ ≠ (v749 : Value).ownBlock) (.slice Ao11 t736.length co11) t736) := ⟨(by rw [hw]; exact (by (with_reducible repeat (first | apply zF | apply zG | apply zH)); exact kA (kY (p := ⟨gb751, 1, none⟩) (kY (p := ⟨gb751, 0, none⟩) (kD HO738.out BK751.out (by decide)) (fun _ hk => hk.2) (.int .i64 t735)) (fun _ hk => hk.2) (.slice Ao11 t736.length co11)) (fun _ hk => ⟨hk.1.1, hk.1.2⟩)))⟩; replace HO741 : Aside0 (Kd.V (Kd.int .i64) 2 w12 w.heap.size (fun k_ => some k_ ≠ (.slice Ao11 t736.length co11 : Value).ownBlock ∧ some k_ ≠ (v743 : Value).ownBlock ∧ some k_ ≠ (v749 : Value).ownBlock ∧ k_ ≠ gb751) v740 t739) := ⟨(by rw [hw]; exact (by (with_reducible repeat (first | apply Kd.V_alloc | apply Kd.V_drewN | apply Kd.V_drew)); exact kN (Kd.V_far (p := ⟨gb751, 1, none⟩) (Kd.V_far (p := ⟨gb751, 0, none⟩) (kN HO741.out (fun k_ hk => (⟨hk, hk.2⟩ : _ ∧ k_ ≠ gb751))) (fun _ hk => hk.2) (.int .i64 t735)) (fun _ hk => hk.2) (.slice Ao11 t736.length co11)) (fun _ hk => ⟨hk.1.1.1, ⟨hk.1.1.2.1, ⟨hk.1.1.2.2, hk.1.2⟩⟩⟩)))⟩; replace HO744 : Aside0 (Kd.R (Kd.int .i64) 2 w12 w.heap.size (fun k_ => some k_ ≠ (.slice Ao11 t736.length co11 : Value).ownBlock ∧ some k_ ≠ (v749 : Value).ownBlock) v743 t742) := ⟨(by rw [hw]; exact (by (with_reducible repeat (first | apply zF | apply zG | apply zH)); exact kA (kY (p := ⟨gb751, 1, none⟩) (kY (p := ⟨gb751, 0, none⟩) (kD HO744.out BK751.out (by decide)) (fun _ hk => hk.2) (.int .i64 t735)) (fun _ hk => hk.2) (.slice Ao11 t736.length co11)) (fun _ hk => ⟨hk.1.1, hk.1.2⟩)))⟩; replace HO747 : Aside0 (Kd.V (Kd.int .i64) 2 w12 w.heap.size (fun k_ => some k_ ≠ (.slice Ao11 t736.length co11 : Value).ownBlock ∧ some k_ ≠ (v743 : Value).ownBlock ∧ some k_ ≠ (v749 : Value).ownBlock ∧ k_ ≠ gb751) v746 t745) := ⟨(by rw [hw]; exact (by (with_reducible repeat (first | apply Kd.V_alloc | apply Kd.V_drewN | apply Kd.V_drew)); exact kN (Kd.V_far (p := ⟨gb751, 1, none⟩) (Kd.V_far (p := ⟨gb751, 0, none⟩) (kN HO747.out (fun k_ hk => (⟨hk, hk.2⟩ : _ ∧ k_ ≠ gb751))) (fun _ hk => hk.2) (.int .i64 t735)) (fun _ hk => hk.2) (.slice Ao11 t736.length co11)) (fun _ hk => ⟨hk.1.1.1, ⟨hk.1.1.2.1, ⟨hk.1.1.2.2, hk.1.2⟩⟩⟩)))⟩; replace HO750 : Aside0 (Kd.R (Kd.int .i64) 2 w12 w.heap.size (fun k_ => some k_ ≠ (.slice Ao11 t736.length co11 : Value).ownBlock ∧ some k_ ≠ (v743 : Value).ownBlock) v749 t748) := ⟨(by rw [hw]; exact (by (with_reducible repeat (first | apply zF | apply zG | apply zH)); exact kA (kY (p := ⟨gb751, 1, none⟩) (kY (p := ⟨gb751, 0, none⟩) (kD HO750.out BK751.out (by decide)) (fun _ hk => hk.2) (.int .i64 t735)) (fun _ hk => hk.2) (.slice Ao11 t736.length co11)) (fun _ hk => ⟨hk.1.1, hk.1.2⟩)))⟩; replace BK751 : Aside0 (w12.heap[gb751]? = some (.cells #[.int .i64 t735, .slice Ao11 t736.length co11] 29 (0, 0))) := ⟨(by rw [hw]; exact (zRP BK751.out))⟩; replace HB : Aside0 (Below w.heap.size w w12) := ⟨(by rw [hw]; exact (zT HB.out GE751.out))⟩; clear hw; obtain ⟨hcz13_0, hcz13_1, hfz13_0, hfz13_1⟩ := zB3 BK751.out; obtain ⟨Ao14, co14, eo14⟩ := Kd.V_slice HO741.out; subst eo14; obtain ⟨Ao15, co15, eo15⟩ := kM HO744.out; subst eo15; obtain ⟨Ao16, co16, eo16⟩ := Kd.V_slice HO747.out; subst eo16; obtain ⟨Ao17, co17, eo17⟩ := kM HO750.out; subst eo17) | (refine zO (some 40) Tryd.func28 #[.agg #[.int .i64 t735, .slice Ao11 t736.length co11], .slice Ao14 t739.length co14, .slice Ao15 t742.length co15, .slice Ao16 t745.length co16, .slice Ao17 t748.length co17] ?_; (with_reducible refine (impl_LeviOf.calls k t735 (fun k_ => some k_ = (.slice Ao11 t736.length co11 : Value).ownBlock) _ _ t736 (fun k_ => (some k_ ≠ (.slice Ao11 t736.length co11 : Value).ownBlock ∧ (some k_ ≠ (.slice Ao15 t742.length co15 : Value).ownBlock ∧ (some k_ ≠ (.slice Ao17 t748.length co17 : Value).ownBlock ∧ k_ ≠ gb751)))) _ _ t739 (fun k_ => some k_ = (.slice Ao15 t742.length co15 : Value).ownBlock) _ _ t742 (fun k_ => (some k_ ≠ (.slice Ao11 t736.length co11 : Value).ownBlock ∧ (some k_ ≠ (.slice Ao15 t742.length co15 : Value).ownBlock ∧ (some k_ ≠ (.slice Ao17 t748.length co17 : Value).ownBlock ∧ k_ ≠ gb751)))) _ _ t745 (fun k_ => some k_ = (.slice Ao17 t748.length co17 : Value).ownBlock) _ _ t748 t752 t755 _ ?side1 ?side2 ?side3 ?side4 ?side5 ?side6 A5.out).mono ?_); (case side1 => exact jL (jK rfl (kD (HO738.out) BK751.out (by decide)))); (case side2 => exact HO741.out); (case side3 => exact jL (jK rfl (kD (HO744.out) BK751.out (by decide)))); (case side4 => exact HO747.out); (case side5 => exact jL (jK rfl (kD (HO750.out) BK751.out (by decide)))); (case side6 => exact TabW.below HT.out (zT HB.out GE751.out)); rintro e w18 ⟨v753, rfl, ho0, hb⟩; refine ⟨_, rfl, ?_⟩; replace HO741 := zA (kK (zPV HO741.out) (Kd.N_base ho0) hb); replace HO747 := zA (kK (zPV HO747.out) (Kd.N_base ho0) hb); have HO754 := zA (jN (Kd.N_mono (ok' := fun k_ => k_ ≠ gb751) ho0 (fun k_ hk_ => Or.elim hk_ (fun hs_ => Or.elim hs_ (fun hs_ => ((kD (HO738.out) BK751.out (by decide)).1 k_ hs_.symm).2) (fun hs_ => Or.elim hs_ (fun hs_ => hs_.2.2.2) (fun hs_ => Or.elim hs_ (fun hs_ => ((kD (HO744.out) BK751.out (by decide)).1 k_ hs_.symm).2) (fun hs_ => Or.elim hs_ (fun hs_ => hs_.2.2.2) (fun hs_ => ((kD (HO750.out) BK751.out (by decide)).1 k_ hs_.symm).2))))) (fun hn_ => (jE (g := gb751) (o := .cells #[.int .i64 t735, .slice Ao11 t736.length co11] 29 (0, 0)) (zR BK751.out) k_ hn_)))) (kP (zT HB.out GE751.out))); replace HO738 := zA (kL (zP HO738.out) hb); replace HO744 := zA (kL (zP HO744.out) hb); replace HO750 := zA (kL (zP HO750.out) hb); replace BK751 := zA (zB1 BK751.out hb); replace HB := zA (kQ (zT HB.out GE751.out) hb); (try clear hb); (try clear ho0); obtain ⟨hcz19_0, hcz19_1, hfz19_0, hfz19_1⟩ := zB3 BK751.out) | (refine zO (some 49) Tryd.func27 #[.agg #[.int .i64 t735, .slice Ao11 t736.length co11], .slice Ao14 t739.length co14, .slice Ao15 t742.length co15, .slice Ao16 t745.length co16, .slice Ao17 t748.length co17] ?_; (with_reducible refine (spec_LeviOf.calls k t735 _ _ t736 _ _ t739 _ _ t742 _ _ t745 _ _ t748 t756 t759 _ ?side1 ?side2 ?side3 ?side4 ?side5 ?side6 ?side7 ?side8 ?side9 ?side10 A6.out).mono ?_); (case side1 => exact zS (kB HO738.out).2.2); (case side2 => exact (kB HO738.out).2.1); (case side3 => exact zS (kJ HO741.out).2.2); (case side4 => exact (kJ HO741.out).2.1); (case side5 => exact zS (kB HO744.out).2.2); (case side6 => exact (kB HO744.out).2.1); (case side7 => exact zS (kJ HO747.out).2.2); (case side8 => exact (kJ HO747.out).2.1); (case side9 => exact zS (kB HO750.out).2.2); (case side10 => exact (kB HO750.out).2.1); rintro e w20 ⟨v757, rfl, ho0, hb⟩; refine ⟨_, rfl, ?_⟩; replace HO741 := zA (kK (zPV HO741.out) (Kd.N_base ho0) hb); replace HO747 := zA (kK (zPV HO747.out) (Kd.N_base ho0) hb); have HO758 := zA (jN (Kd.N_mono (ok' := fun k_ => some k_ ≠ (.slice Ao11 t736.length co11 : Value).ownBlock ∧ some k_ ≠ (.slice Ao15 t742.length co15 : Value).ownBlock ∧ some k_ ≠ (.slice Ao17 t748.length co17 : Value).ownBlock ∧ some k_ ≠ (v753 : Value).ownBlock ∧ k_ ≠ gb751) ho0 (fun k_ hk_ => ⟨(jF (kH (zP HO738.out)) k_ hk_), (jF (kH (zP HO744.out)) k_ hk_), (jF (kH (zP HO750.out)) k_ hk_), (jF (jA (zPN HO754.out)) k_ hk_), (jE (g := gb751) (o := .cells #[.int .i64 t735, .slice Ao11 t736.length co11] 29 (0, 0)) (zR BK751.out) k_ hk_)⟩)) (kP (zT HB.out GE751.out))); replace HO738 := zA (kL (zP HO738.out) hb); replace HO744 := zA (kL (zP HO744.out) hb); replace HO750 := zA (kL (zP HO750.out) hb); replace HO754 := zA (Kd.N_elder' (zPN HO754.out) (Kd.N_base ho0) hb); replace BK751 := zA (zB1 BK751.out hb); replace HB := zA (kQ (zT HB.out GE751.out) hb); (try clear hb); (try clear ho0)))
 (try simp only [Act.put, zL, zM, zN])
 go_cut [60] (fun v60 wc => ∃ (kq : Nat) (x60_6 : Bool), v60 = .bool x60_6 ∧ Aside0 (laws_FnLevi.j0 kq t739 t742 t745 t748 t752 t755 x60_6 t735 t736 = some r) ∧ Aside0 (kq ≤ k) ∧ Aside0 (Kd.V (Kd.int .i64) 2 wc w.heap.size (fun k_ => some k_ ≠ ((.slice Ao15 t742.length co15) : Value).ownBlock ∧ some k_ ≠ ((.slice Ao17 t748.length co17) : Value).ownBlock ∧ some k_ ≠ (v753 : Value).ownBlock ∧ some k_ ≠ ((.slice Ao11 t736.length co11) : Value).ownBlock ∧ k_ ≠ gb751) (.slice Ao14 t739.length co14) t739) ∧ Aside0 (Kd.R (Kd.int .i64) 2 wc w.heap.size (fun k_ => some k_ ≠ ((.slice Ao17 t748.length co17) : Value).ownBlock ∧ some k_ ≠ ((.slice Ao11 t736.length co11) : Value).ownBlock) (.slice Ao15 t742.length co15) t742) ∧ Aside0 (Kd.V (Kd.int .i64) 2 wc w.heap.size (fun k_ => some k_ ≠ ((.slice Ao15 t742.length co15) : Value).ownBlock ∧ some k_ ≠ ((.slice Ao17 t748.length co17) : Value).ownBlock ∧ some k_ ≠ (v753 : Value).ownBlock ∧ some k_ ≠ ((.slice Ao11 t736.length co11) : Value).ownBlock ∧ k_ ≠ gb751) (.slice Ao16 t745.length co16) t745) ∧ Aside0 (Kd.R (Kd.int .i64) 2 wc w.heap.size (fun k_ => some k_ ≠ ((.slice Ao15 t742.length co15) : Value).ownBlock ∧ some k_ ≠ ((.slice Ao11 t736.length co11) : Value).ownBlock) (.slice Ao17 t748.length co17) t748) ∧ Aside0 (Kd.N (Kd.slice 2 (Kd.int .i64)) 22 wc w.heap.size (fun k_ => k_ ≠ gb751) v753 t752) ∧ Aside0 (Kd.R (Kd.int .i64) 2 wc w.heap.size (fun k_ => some k_ ≠ ((.slice Ao15 t742.length co15) : Value).ownBlock ∧ some k_ ≠ ((.slice Ao17 t748.length co17) : Value).ownBlock) (.slice Ao11 t736.length co11) t736) ∧ Aside0 (wc.heap[gb751]? = some (.cells #[.int .i64 t735, (.slice Ao11 t736.length co11)] 29 (0, 0))) ∧ Aside0 (Below w.heap.size w wc))
 case first => as_aux_lemma =>
  have H := HC7.out
  clear HC7
  by_cases c21 : t755 = t759
  ·rw [if_pos c21] at H
   obtain ⟨c21b0, c21b1⟩ := zT1 c21
   clear c21
   (first | rw [c21b0] | (simp only [i64_w, i32_w]; rw [c21b0]) | skip)
   obtain ⟨t760, A22, H⟩ := zb H
   try dsimp only at H
   have H' := zA H
   clear H
   obtain ⟨Ao23, co23, eo23⟩ := Kd.N_slice HO754.out
   subst eo23
   obtain ⟨Ao24, co24, eo24⟩ := Kd.N_slice HO758.out
   subst eo24
   go_wp2_with (first | (go_at_call 49; (with_reducible refine (laws_likeRows5.calls k _ _ t752 _ _ t756 t760 _ ?side1 ?side2 ?side3 ?side4 A22.out).mono ?_); (case side1 => exact zS (Kd.N_reads' HO754.out).2.2); (case side2 => exact (Kd.N_reads' HO754.out).2.1); (case side3 => exact zS (Kd.N_reads' HO758.out).2.2); (case side4 => exact (Kd.N_reads' HO758.out).2.1); rintro e w' ⟨rfl, ⟨nd, rfl⟩⟩))
   go_meet
   case rel => exact ⟨_, (!t760), zs, H', ⟨by first | omega | exact Nat.le_refl _⟩, ⟨by (with_reducible repeat (first | apply Kd.V_alloc | apply Kd.V_drewN | apply Kd.V_drew)); exact kN HO741.out (fun _ hk => ⟨hk.1.1.2.1, ⟨hk.1.1.2.2.1, ⟨hk.1.2, ⟨hk.1.1.1, hk.1.1.2.2.2⟩⟩⟩⟩)⟩, ⟨zPM HO744.out (fun _ hk => ⟨hk.2, hk.1⟩)⟩, ⟨by (with_reducible repeat (first | apply Kd.V_alloc | apply Kd.V_drewN | apply Kd.V_drew)); exact kN HO747.out (fun _ hk => ⟨hk.1.1.2.1, ⟨hk.1.1.2.2.1, ⟨hk.1.2, ⟨hk.1.1.1, hk.1.1.2.2.2⟩⟩⟩⟩)⟩, ⟨zPM HO750.out (fun _ hk => ⟨hk.2, hk.1⟩)⟩, ⟨by (with_reducible repeat (first | apply Kd.N_alloc | apply Kd.N_drewN | apply Kd.N_drew)); exact Kd.N_mono HO754.out (fun _ hk => hk.1)⟩, ⟨zP HO738.out⟩, ⟨zR BK751.out⟩, ⟨zT HB.out GE751.out⟩⟩
  rw [if_neg c21] at H
  obtain ⟨c21b0, c21b1⟩ := zT2 c21
  (first | rw [c21b0] | (simp only [i64_w, i32_w]; rw [c21b0]) | skip)
  have H' := zA H
  clear H
  go_wp2
  go_meet
  case rel => exact ⟨_, (true), zs, H', ⟨by first | omega | exact Nat.le_refl _⟩, ⟨by (with_reducible repeat (first | apply Kd.V_alloc | apply Kd.V_drewN | apply Kd.V_drew)); exact kN HO741.out (fun _ hk => ⟨hk.1.1.2.1, ⟨hk.1.1.2.2.1, ⟨hk.1.2, ⟨hk.1.1.1, hk.1.1.2.2.2⟩⟩⟩⟩)⟩, ⟨zPM HO744.out (fun _ hk => ⟨hk.2, hk.1⟩)⟩, ⟨by (with_reducible repeat (first | apply Kd.V_alloc | apply Kd.V_drewN | apply Kd.V_drew)); exact kN HO747.out (fun _ hk => ⟨hk.1.1.2.1, ⟨hk.1.1.2.2.1, ⟨hk.1.2, ⟨hk.1.1.1, hk.1.1.2.2.2⟩⟩⟩⟩)⟩, ⟨zPM HO750.out (fun _ hk => ⟨hk.2, hk.1⟩)⟩, ⟨by (with_reducible repeat (first | apply Kd.N_alloc | apply Kd.N_drewN | apply Kd.N_drew)); exact Kd.N_mono HO754.out (fun _ hk => hk.1)⟩, ⟨zP HO738.out⟩, ⟨zR BK751.out⟩, ⟨zT HB.out GE751.out⟩⟩
 case rest =>
  clear HC7
  try clear c1
  try clear c2
  try clear c3
  try clear c4
  try clear c10
  try clear c21
  try clear hcz10_0
  try clear hcz10_1
  try clear hcz13_0
  try clear hcz13_1
  try clear hcz19_0
  try clear hcz19_1
  try clear hfz10_0
  try clear hfz10_1
  try clear hfz13_0
  try clear hfz13_1
  try clear hfz19_0
  try clear hfz19_1
  obtain ⟨kq, x60_6, rfl, HA, HJ6, HO_4, HO_5, HO_6, HO_7, HO_8, HO_752001, BK751, HB⟩ := hcut
  cases kq with
  | zero => exact absurd HA.out (by simp [laws_FnLevi.j0])
  | succ kj6 =>
   have H := HA.out
   clear HA
   simp only [laws_FnLevi.j0] at H
   by_cases c25 : x60_6 = true
   ·subst c25
    rw [if_pos rfl] at H
    exact absurd H (by simp)
   replace c25 := Bool.eq_false_iff.mpr c25
   subst c25
   rw [if_neg (show ¬ (false = true) by decide)] at H
   by_cases c26 : t755 = 0
   ·rw [if_pos c26] at H
    obtain ⟨c26b0, c26b1⟩ := zT1 c26
    clear c26
    by_cases c27 : (t752.length : Int) = 4
    ·rw [if_pos c27] at H
     obtain ⟨c27b0, c27b1⟩ := zT1 c27
     clear c27
     by_cases c28 : 1 < (t752.length : Int)
     ·rw [if_pos c28] at H
      have c28b0 : decide (1 < (t752.length : Int)) = true := decide_eq_true c28
      have c28b1 : decide (1 < t752.length) = true := decide_eq_true (by omega)
      clear c28
      by_cases c29 : 2 < (t752.length : Int)
      ·rw [if_pos c29] at H
       have c29b0 : decide (2 < (t752.length : Int)) = true := decide_eq_true c29
       have c29b1 : decide (2 < t752.length) = true := decide_eq_true (by omega)
       clear c29
       obtain ⟨⟨t763, t764⟩, A30, H⟩ := zb H
       try dsimp only at H
       by_cases c31 : 0 < (t752.length : Int)
       ·rw [if_pos c31] at H
        have c31b0 : decide (0 < (t752.length : Int)) = true := decide_eq_true c31
        have c31b1 : decide (0 < t752.length) = true := decide_eq_true (by omega)
        clear c31
        obtain ⟨t767, A32, H⟩ := zb H
        try dsimp only at H
        obtain ⟨⟨t770, t771⟩, A33, H⟩ := zb H
        try dsimp only at H
        by_cases c34 : 3 < (t752.length : Int)
        ·rw [if_pos c34] at H
         have c34b0 : decide (3 < (t752.length : Int)) = true := decide_eq_true c34
         have c34b1 : decide (3 < t752.length) = true := decide_eq_true (by omega)
         clear c34
         obtain ⟨t774, A35, H⟩ := zb H
         try dsimp only at H
         obtain ⟨⟨t777, t778⟩, A36, H⟩ := zb H
         try dsimp only at H
         obtain ⟨t781, A37, H⟩ := zb H
         try dsimp only at H
         obtain ⟨⟨t784, t785⟩, A38, H⟩ := zb H
         try dsimp only at H
         obtain ⟨t788, A39, H⟩ := zb H
         try dsimp only at H
         obtain ⟨⟨t791, t792⟩, A40, H⟩ := zb H
         try dsimp only at H
         obtain ⟨⟨t793, t796⟩, A41, H⟩ := zb H
         try dsimp only at H
         by_cases c42 : t764 = 0
         ·rw [if_pos c42] at H
          obtain ⟨c42b0, c42b1⟩ := zT1 c42
          clear c42
          by_cases c43 : t771 = 0
          ·rw [if_pos c43] at H
           obtain ⟨c43b0, c43b1⟩ := zT1 c43
           clear c43
           by_cases c44 : t778 = 0
           ·rw [if_pos c44] at H
            obtain ⟨c44b0, c44b1⟩ := zT1 c44
            clear c44
            by_cases c45 : t785 = 0
            ·rw [if_pos c45] at H
             obtain ⟨c45b0, c45b1⟩ := zT1 c45
             clear c45
             by_cases c46 : t792 = 0
             ·rw [if_pos c46] at H
              obtain ⟨c46b0, c46b1⟩ := zT1 c46
              clear c46
              by_cases c47 : t796 = 0
              ·rw [if_pos c47] at H
               obtain ⟨c47b0, c47b1⟩ := zT1 c47
               clear c47
               by_cases c48 : t763 = true
               ·subst c48
                rw [if_pos rfl] at H
                by_cases c49 : t770 = true
                ·subst c49
                 rw [if_pos rfl] at H
                 by_cases c50 : t777 = true
                 ·subst c50
                  rw [if_pos rfl] at H
                  by_cases c51 : t784 = true
                  ·subst c51
                   rw [if_pos rfl] at H
                   by_cases c52 : t791 = true
                   ·subst c52
                    rw [if_pos rfl] at H
                    obtain ⟨t798, A53, H⟩ := zb H
                    try dsimp only at H
                    obtain rfl := Option.some.inj H
                    obtain ⟨Ao54, co54, eo54⟩ := Kd.N_slice HO_8.out
                    subst eo54
                    try go_wp2
                    replace HO_4 := zA (Kd.V_drew HO_4.out)
                    replace HO_5 := zA (zH HO_5.out)
                    replace HO_6 := zA (Kd.V_drew HO_6.out)
                    replace HO_7 := zA (zH HO_7.out)
                    replace HO_8 := zA (Kd.N_drew HO_8.out)
                    replace HO_752001 := zA (zH HO_752001.out)
                    replace BK751 := zA (zK BK751.out)
                    replace HB := zA (zD HB.out)
                    have p761 : 0 ≤ (1 : Int) := (by omega)
                    have q761 : 1 < (t752.length : Int) := zd
                    obtain ⟨ad761, A761_0, c761_0, e761, hx761_0, hl761_0, hi761_0⟩ := at_L1 (Kd.N_reads' HO_8.out).2.2 1 p761 q761
                    cases e761
                    obtain ⟨ce761, hce761, hMe761, hcc761⟩ := Kd.N_get HO_8.out [] 1 p761 (by first | exact q761 | exact zd | (have e_ := (Kd.N_reads' HO_8.out).1; omega))
                    obtain ⟨ua761_0, uc761_0, rfl, ul761_0, ge761_0⟩ := Kd.FK_slice_open hMe761
                    have hv761_0 := hcc761 0 _ rfl
                    rw [Nat.add_zero, show ((Kd.slice 2 (Kd.int .i64))).sz = 1 from rfl, Nat.mul_one] at hv761_0
                    replace hv761_0 := Option.some.inj (hv761_0.symm.trans hx761_0)
                    injection hv761_0 with hva_ hvn_ hvc_
                    rw [hva_] at ge761_0
                    rw [hvc_] at ul761_0
                    have HL761_0 := zA (show Kd.V (Kd.int .i64) 2 _ w.heap.size _ _ (rd_L1 t752 1) from Kd.V_mk ul761_0 ge761_0)
                    clear hva_ hvn_ hvc_ ge761_0 ul761_0 hcc761 hce761
                    (try simp only [show (1 : Int).toNat = 1 from rfl, Nat.reduceMul, Nat.reduceEqDiff, Go.Addr.add, ↓reduceIte] at hx761_0)
                    have qi761 : (1 < t752.length) = True := eq_true (by omega)
                    (try rw [show ((1 : Int)).toNat = 1 from rfl] at hx761_0)
                    have HR761_0 := zA hi761_0
                    have HC761_0 := zA hl761_0
                    clear hi761_0 hl761_0
                    replace p761 := eq_true p761
                    replace q761 := eq_true q761
                    have p762 : 0 ≤ (2 : Int) := (by omega)
                    have q762 : 2 < (t752.length : Int) := zd
                    obtain ⟨ad762, A762_0, c762_0, e762, hx762_0, hl762_0, hi762_0⟩ := at_L1 (Kd.N_reads' HO_8.out).2.2 2 p762 q762
                    obtain rfl : ad761 = ad762 := (by injection e762)
                    obtain ⟨ce762, hce762, hMe762, hcc762⟩ := Kd.N_get HO_8.out [] 2 p762 (by first | exact q762 | exact zd | (have e_ := (Kd.N_reads' HO_8.out).1; omega))
                    obtain ⟨ua762_0, uc762_0, rfl, ul762_0, ge762_0⟩ := Kd.FK_slice_open hMe762
                    have hv762_0 := hcc762 0 _ rfl
                    rw [Nat.add_zero, show ((Kd.slice 2 (Kd.int .i64))).sz = 1 from rfl, Nat.mul_one] at hv762_0
                    replace hv762_0 := Option.some.inj (hv762_0.symm.trans hx762_0)
                    injection hv762_0 with hva_ hvn_ hvc_
                    rw [hva_] at ge762_0
                    rw [hvc_] at ul762_0
                    have HL762_0 := zA (show Kd.V (Kd.int .i64) 2 _ w.heap.size _ _ (rd_L1 t752 2) from Kd.V_mk ul762_0 ge762_0)
                    clear hva_ hvn_ hvc_ ge762_0 ul762_0 hcc762 hce762
                    (try simp only [show (2 : Int).toNat = 2 from rfl, Nat.reduceMul, Nat.reduceEqDiff, Go.Addr.add, ↓reduceIte] at hx762_0)
                    have qi762 : (2 < t752.length) = True := eq_true (by omega)
                    (try rw [show ((2 : Int)).toNat = 2 from rfl] at hx762_0)
                    have HR762_0 := zA hi762_0
                    have HC762_0 := zA hl762_0
                    clear hi762_0 hl762_0
                    replace p762 := eq_true p762
                    replace q762 := eq_true q762
                    refine start_ (n := 13) (S := fun w' => w'.cell? ⟨gb751, 0, none⟩ = some (.int .i64 t735) ∧ w'.cell? ⟨gb751, 1, none⟩ = some (.slice Ao11 t736.length co11) ∧ w'.cell? ⟨ad761.block, ad761.off + 1, none⟩ = some (.slice A761_0 (rd_L1 t752 1).length c761_0) ∧ w'.cell? ⟨ad761.block, ad761.off + 2, none⟩ = some (.slice A762_0 (rd_L1 t752 2).length c762_0)) (ds := []) #[false, false, false, false, false, false, false, false, false, false, false, false, false] (by kernel_rfl) rfl rfl ⟨(kV BK751.out 0).trans rfl, (kV BK751.out 1).trans rfl, hx761_0, hx762_0⟩ (fun hHeld => ?_); refine with_tabW laws_FnLevi.tab12 laws_FnLevi.bits12 (fun HT_ HW_ => ?_)
                    generalize wc.drew = w55 at HO_4 HO_5 HO_6 HO_7 HO_8 HO_752001 BK751 HB HL761_0 HL762_0 HR761_0 HR762_0 hx761_0 hx762_0 hHeld ⊢
                    refine zp 1 (some 68) #[false, true, false, false, false, false, false, false, false, false, false, false, false] HT_.out ?_
                    refine zp 2 (some 69) #[false, true, true, false, false, false, false, false, false, false, false, false, false] HT_.out ?_
                    refine zp 4 (some 71) #[false, true, true, false, true, false, false, false, false, false, false, false, false] HT_.out ?_
                    refine zp 5 (some 72) #[false, true, true, false, true, true, false, false, false, false, false, false, false] HT_.out ?_
                    refine zf 0 (some 67) #[true, true, true, false, true, true, false, false, false, false, false, false, false] HT_.out HW_.out hHeld ?_
                    refine zf 3 (some 70) #[true, true, true, true, true, true, false, false, false, false, false, false, false] HT_.out HW_.out hHeld ?_
                    refine zf 6 (some 73) #[true, true, true, true, true, true, true, false, false, false, false, false, false] HT_.out HW_.out hHeld ?_
                    refine one_ (i := 7) (N := some 74) #[true, true, true, true, true, true, true, true, false, false, false, false, false] rfl rfl (one_of HT_.out (by kernel_rfl)) (by decide) (fun K hK => ?_)
                    refine goes_ Tryd.func50 (by kernel_rfl) rfl #[.agg #[.int .i64 t735, .slice Ao11 t736.length co11], .slice A761_0 (rd_L1 t752 1).length c761_0, .slice A762_0 (rd_L1 t752 2).length c762_0] (by rfl) rfl rfl zg ?_
                    with_reducible refine (impl_AreIndependent.calls kj6 t735 (fun k_ => some k_ = (.slice Ao11 t736.length co11 : Value).ownBlock) _ _ t736 (fun k_ => (k_ ≠ gb751 ∧ some k_ ≠ (.slice (some ad761) t752.length co54 : Value).ownBlock)) _ _ (rd_L1 t752 1) (fun k_ => (k_ ≠ gb751 ∧ some k_ ≠ (.slice (some ad761) t752.length co54 : Value).ownBlock)) _ _ (rd_L1 t752 2) true t764 _ ?side1 ?side2 ?side3 ?side4 A30.out).mono ?_
                    (case side1 => exact jL (jK rfl (kD (Kd.R_apart' (HO_752001.out) (Kd.N_typed HO_8.out) (by decide)) BK751.out (by decide))))
                    (case side2 => exact HL761_0.out)
                    (case side3 => exact HL762_0.out)
                    (case side4 => exact TabW.below HT.out (zT HB.out GE751.out))
                    rintro e w56 ⟨rfl, hb⟩
                    have HS2_ := (hb.cell (jG _ _ (hHeld.2.2.1))).trans (hHeld.2.2.1)
                    have HS3_ := (hb.cell (jG _ _ (hHeld.2.2.2))).trans (hHeld.2.2.2)
                    refine ⟨_, rfl, ?_⟩
                    replace HO_4 := zA (kG (zPV HO_4.out) hb)
                    replace HO_5 := zA (kL (zP HO_5.out) hb)
                    replace HO_6 := zA (kG (zPV HO_6.out) hb)
                    replace HO_7 := zA (kL (zP HO_7.out) hb)
                    replace HO_8 := zA (kZ (zPN HO_8.out) hb)
                    replace HO_752001 := zA (kL (zP HO_752001.out) hb)
                    replace HL761_0 := zA (kG (zPV HL761_0.out) hb)
                    replace HL762_0 := zA (kG (zPV HL762_0.out) hb)
                    replace BK751 := zA (zB1 BK751.out hb)
                    replace HR761_0 := zA (kO (by repeat (first | (with_reducible exact HR761_0.out) | (with_reducible refine Kd.C_alloc ?_ _) | (with_reducible refine Kd.C_drewN ?_ _) | (with_reducible refine Kd.C_drew ?_) | exact HR761_0.out)) hb)
                    replace HR762_0 := zA (kO (by repeat (first | (with_reducible exact HR762_0.out) | (with_reducible refine Kd.C_alloc ?_ _) | (with_reducible refine Kd.C_drewN ?_ _) | (with_reducible refine Kd.C_drew ?_) | exact HR762_0.out)) hb)
                    replace HB := zA (kQ (zT HB.out GE751.out) hb)
                    (try clear hb)
                    (try clear hb2)
                    (try clear hk)
                    (try clear hi)
                    (try clear hgw)
                    refine hK.out _ _ ⟨(kV BK751.out 0).trans rfl, (kV BK751.out 1).trans rfl, HS2_, HS3_⟩ (fun hHeld => ?_)
                    clear hK K
                    refine norm_ (a' := ?_) ?_ ?_
                    rotate_left
                    ·show Act.put _ (some 74) _ = _
                     simp only [Act.put, zL, zM, zN, i64_w, i32_w]
                     rfl
                    refine zp 8 (some 66) #[true, true, true, true, true, true, true, true, true, false, false, false, false] HT_.out ?_
                    refine zp 9 (some 75) #[true, true, true, true, true, true, true, true, true, true, false, false, false] HT_.out ?_
                    refine zp 10 (some 76) #[true, true, true, true, true, true, true, true, true, true, true, false, false] HT_.out ?_
                    refine zp 11 (some 12) #[true, true, true, true, true, true, true, true, true, true, true, true, false] HT_.out ?_
                    refine zp 12 (some 13) #[true, true, true, true, true, true, true, true, true, true, true, true, true] HT_.out ?_
                    refine done_ (done_of HT_.out (by kernel_rfl)) ?_
                    try go_wp2
                    replace HO_4 := zA (Kd.V_drew HO_4.out)
                    replace HO_5 := zA (zH HO_5.out)
                    replace HO_6 := zA (Kd.V_drew HO_6.out)
                    replace HO_7 := zA (zH HO_7.out)
                    replace HO_8 := zA (Kd.N_drew HO_8.out)
                    replace HO_752001 := zA (zH HO_752001.out)
                    replace HL761_0 := zA (Kd.V_drew HL761_0.out)
                    replace HL762_0 := zA (Kd.V_drew HL762_0.out)
                    replace BK751 := zA (zK BK751.out)
                    replace HR761_0 := zA (Kd.C_drew HR761_0.out)
                    replace HR762_0 := zA (Kd.C_drew HR762_0.out)
                    replace HB := zA (zD HB.out)
                    have p765 : 0 ≤ (0 : Int) := (by omega)
                    have q765 : 0 < (t752.length : Int) := zd
                    obtain ⟨ad765, A765_0, c765_0, e765, hx765_0, hl765_0, hi765_0⟩ := at_L1 (Kd.N_reads' HO_8.out).2.2 0 p765 q765
                    obtain rfl : ad761 = ad765 := (by injection e765)
                    obtain ⟨ce765, hce765, hMe765, hcc765⟩ := Kd.N_get HO_8.out [] 0 p765 (by first | exact q765 | exact zd | (have e_ := (Kd.N_reads' HO_8.out).1; omega))
                    obtain ⟨ua765_0, uc765_0, rfl, ul765_0, ge765_0⟩ := Kd.FK_slice_open hMe765
                    have hv765_0 := hcc765 0 _ rfl
                    rw [Nat.add_zero, show ((Kd.slice 2 (Kd.int .i64))).sz = 1 from rfl, Nat.mul_one] at hv765_0
                    replace hv765_0 := Option.some.inj (hv765_0.symm.trans hx765_0)
                    injection hv765_0 with hva_ hvn_ hvc_
                    rw [hva_] at ge765_0
                    rw [hvc_] at ul765_0
                    have HL765_0 := zA (show Kd.V (Kd.int .i64) 2 _ w.heap.size _ _ (rd_L1 t752 0) from Kd.V_mk ul765_0 ge765_0)
                    clear hva_ hvn_ hvc_ ge765_0 ul765_0 hcc765 hce765
                    have qi765 : (0 < t752.length) = True := eq_true (by omega)
                    (try rw [show ((0 : Int)).toNat = 0 from rfl] at hx765_0)
                    (try rw [Addr.add_zero'] at hx765_0)
                    have HR765_0 := zA hi765_0
                    have HC765_0 := zA hl765_0
                    clear hi765_0 hl765_0
                    replace p765 := eq_true p765
                    replace q765 := eq_true q765
                    have p766 : 0 ≤ (1 : Int) := (by omega)
                    have q766 : 1 < (t752.length : Int) := zd
                    obtain ⟨ad766, A766_0, c766_0, e766, hx766_0, hl766_0, hi766_0⟩ := at_L1 (Kd.N_reads' HO_8.out).2.2 1 p766 q766
                    obtain rfl : ad761 = ad766 := (by injection e766)
                    obtain ⟨ce766, hce766, hMe766, hcc766⟩ := Kd.N_get HO_8.out [] 1 p766 (by first | exact q766 | exact zd | (have e_ := (Kd.N_reads' HO_8.out).1; omega))
                    obtain ⟨ua766_0, uc766_0, rfl, ul766_0, ge766_0⟩ := Kd.FK_slice_open hMe766
                    have hv766_0 := hcc766 0 _ rfl
                    rw [Nat.add_zero, show ((Kd.slice 2 (Kd.int .i64))).sz = 1 from rfl, Nat.mul_one] at hv766_0
                    replace hv766_0 := Option.some.inj (hv766_0.symm.trans hx766_0)
                    injection hv766_0 with hva_ hvn_ hvc_
                    rw [hva_] at ge766_0
                    rw [hvc_] at ul766_0
                    have HL766_0 := zA (show Kd.V (Kd.int .i64) 2 _ w.heap.size _ _ (rd_L1 t752 1) from Kd.V_mk ul766_0 ge766_0)
                    clear hva_ hvn_ hvc_ ge766_0 ul766_0 hcc766 hce766
                    (try simp only [show (1 : Int).toNat = 1 from rfl, Nat.reduceMul, Nat.reduceEqDiff, Go.Addr.add, ↓reduceIte] at hx766_0)
                    have qi766 : (1 < t752.length) = True := eq_true (by omega)
                    (try rw [show ((1 : Int)).toNat = 1 from rfl] at hx766_0)
                    have HR766_0 := zA hi766_0
                    have HC766_0 := zA hl766_0
                    clear hi766_0 hl766_0
                    replace p766 := eq_true p766
                    replace q766 := eq_true q766
                    refine start_ (n := 15) (S := fun w' => w'.cell? ⟨gb751, 0, none⟩ = some (.int .i64 t735) ∧ w'.cell? ⟨gb751, 1, none⟩ = some (.slice Ao11 t736.length co11) ∧ w'.cell? ad761 = some (.slice A765_0 (rd_L1 t752 0).length c765_0) ∧ w'.cell? ⟨ad761.block, ad761.off + 1, none⟩ = some (.slice A766_0 (rd_L1 t752 1).length c766_0)) (ds := []) #[false, false, false, false, false, false, false, false, false, false, false, false, false, false, false] (by kernel_rfl) rfl rfl ⟨(kV BK751.out 0).trans rfl, (kV BK751.out 1).trans rfl, hx765_0, hx766_0⟩ (fun hHeld => ?_); refine with_tabW laws_FnLevi.tab13 laws_FnLevi.bits13 (fun HT_ HW_ => ?_)
                    generalize w56.drew = w57 at HO_4 HO_5 HO_6 HO_7 HO_8 HO_752001 HL761_0 HL762_0 BK751 HR761_0 HR762_0 HB HL765_0 HL766_0 HR765_0 HR766_0 hx765_0 hx766_0 hHeld ⊢
                    refine zp 1 (some 79) #[false, true, false, false, false, false, false, false, false, false, false, false, false, false, false] HT_.out ?_
                    refine zp 2 (some 80) #[false, true, true, false, false, false, false, false, false, false, false, false, false, false, false] HT_.out ?_
                    refine zp 4 (some 82) #[false, true, true, false, true, false, false, false, false, false, false, false, false, false, false] HT_.out ?_
                    refine zp 5 (some 83) #[false, true, true, false, true, true, false, false, false, false, false, false, false, false, false] HT_.out ?_
                    refine zp 8 (some 86) #[false, true, true, false, true, true, false, false, true, false, false, false, false, false, false] HT_.out ?_
                    refine zf 0 (some 78) #[true, true, true, false, true, true, false, false, true, false, false, false, false, false, false] HT_.out HW_.out hHeld ?_
                    refine zf 3 (some 81) #[true, true, true, true, true, true, false, false, true, false, false, false, false, false, false] HT_.out HW_.out hHeld ?_
                    refine zf 6 (some 84) #[true, true, true, true, true, true, true, false, true, false, false, false, false, false, false] HT_.out HW_.out hHeld ?_
                    refine one_ (i := 7) (N := some 85) #[true, true, true, true, true, true, true, true, true, false, false, false, false, false, false] rfl rfl (one_of HT_.out (by kernel_rfl)) (by decide) (fun K hK => ?_)
                    refine goes_ Tryd.func52 (by kernel_rfl) rfl #[.slice A765_0 (rd_L1 t752 0).length c765_0, .slice A766_0 (rd_L1 t752 1).length c766_0] (by rfl) rfl rfl zg ?_
                    with_reducible refine (laws_join5.calls _ _ (rd_L1 t752 0) _ _ (rd_L1 t752 1) t767 _ ?side1 ?side2 ?side3 ?side4 A32.out).mono ?_
                    (case side1 => repeat (first | exact (by repeat (first | (with_reducible exact HR765_0.out) | (with_reducible refine Kd.C_alloc ?_ _) | (with_reducible refine Kd.C_drewN ?_ _) | (with_reducible refine Kd.C_drew ?_) | exact HR765_0.out)) | (with_reducible refine Kd.C_alloc ?_ _) | (with_reducible refine Kd.C_drewN ?_ _) | (with_reducible refine Kd.C_drew ?_)))
                    (case side2 => exact HC765_0.out)
                    (case side3 => repeat (first | exact (by repeat (first | (with_reducible exact HR766_0.out) | (with_reducible refine Kd.C_alloc ?_ _) | (with_reducible refine Kd.C_drewN ?_ _) | (with_reducible refine Kd.C_drew ?_) | exact HR766_0.out)) | (with_reducible refine Kd.C_alloc ?_ _) | (with_reducible refine Kd.C_drewN ?_ _) | (with_reducible refine Kd.C_drew ?_)))
                    (case side4 => exact HC766_0.out)
                    rintro e w58 ⟨v768, rfl, ho0, hb⟩
                    have HS2_ := (hb.cell (jG _ _ (hHeld.2.2.1))).trans (hHeld.2.2.1)
                    have HS3_ := (hb.cell (jG _ _ (hHeld.2.2.2))).trans (hHeld.2.2.2)
                    refine ⟨_, rfl, ?_⟩
                    replace HO_4 := zA (kK (zPV HO_4.out) (kC ho0) hb)
                    replace HO_6 := zA (kK (zPV HO_6.out) (kC ho0) hb)
                    replace HO_8 := zA (Kd.N_elder' (zPN HO_8.out) (kC ho0) hb)
                    replace HL761_0 := zA (kK (zPV HL761_0.out) (kC ho0) hb)
                    replace HL762_0 := zA (kK (zPV HL762_0.out) (kC ho0) hb)
                    replace HL765_0 := zA (kK (zPV HL765_0.out) (kC ho0) hb)
                    replace HL766_0 := zA (kK (zPV HL766_0.out) (kC ho0) hb)
                    have HO769 := zA (kI (kF (kF (kF ho0 (kH (zP HO_5.out))) (kH (zP HO_7.out))) (kH (zP HO_752001.out))) (kP (zT HB.out GE751.out)))
                    replace HO_5 := zA (kE (zP HO_5.out) (kC ho0) hb)
                    replace HO_7 := zA (kE (zP HO_7.out) (kC ho0) hb)
                    replace HO_752001 := zA (kE (zP HO_752001.out) (kC ho0) hb)
                    replace BK751 := zA (zB1 BK751.out hb)
                    replace HR761_0 := zA (kO (by repeat (first | (with_reducible exact HR761_0.out) | (with_reducible refine Kd.C_alloc ?_ _) | (with_reducible refine Kd.C_drewN ?_ _) | (with_reducible refine Kd.C_drew ?_) | exact HR761_0.out)) hb)
                    replace HR762_0 := zA (kO (by repeat (first | (with_reducible exact HR762_0.out) | (with_reducible refine Kd.C_alloc ?_ _) | (with_reducible refine Kd.C_drewN ?_ _) | (with_reducible refine Kd.C_drew ?_) | exact HR762_0.out)) hb)
                    replace HR765_0 := zA (kO (by repeat (first | (with_reducible exact HR765_0.out) | (with_reducible refine Kd.C_alloc ?_ _) | (with_reducible refine Kd.C_drewN ?_ _) | (with_reducible refine Kd.C_drew ?_) | exact HR765_0.out)) hb)
                    replace HR766_0 := zA (kO (by repeat (first | (with_reducible exact HR766_0.out) | (with_reducible refine Kd.C_alloc ?_ _) | (with_reducible refine Kd.C_drewN ?_ _) | (with_reducible refine Kd.C_drew ?_) | exact HR766_0.out)) hb)
                    replace HB := zA (kQ (zT HB.out GE751.out) hb)
                    (try clear hb)
                    (try clear hb2)
                    (try clear hk)
                    (try clear hi)
                    (try clear hgw)
                    (try clear ho0)
                    obtain ⟨Ao59, co59, eo59⟩ := kM HO769.out
                    (first | subst eo59 | (injection eo59 with f1_ f2_ f3_; have f4_ := f1_.symm; have f5_ := f3_.symm; clear f1_ f2_ f3_; subst f4_; subst f5_))
                    refine hK.out _ _ ⟨(kV BK751.out 0).trans rfl, (kV BK751.out 1).trans rfl, HS2_, HS3_⟩ (fun hHeld => ?_)
                    clear hK K
                    refine norm_ (a' := ?_) ?_ ?_
                    rotate_left
                    ·show Act.put _ (some 85) _ = _
                     simp only [Act.put, zL, zM, zN, i64_w, i32_w]
                     rfl
                    refine one_ (i := 9) (N := some 87) #[true, true, true, true, true, true, true, true, true, true, false, false, false, false, false] rfl rfl (one_of HT_.out (by kernel_rfl)) (by decide) (fun K hK => ?_)
                    refine goes_ Tryd.func51 (by kernel_rfl) rfl #[.agg #[.int .i64 t735, .slice Ao11 t736.length co11], .slice Ao59 t767.length co59, .slice Ao14 t739.length co14] (by rfl) rfl rfl zg ?_
                    with_reducible refine (impl_AreSameTrace.calls kj6 t735 (fun k_ => some k_ = (.slice Ao11 t736.length co11 : Value).ownBlock) _ _ t736 (fun k_ => some k_ = (.slice Ao59 t767.length co59 : Value).ownBlock) _ _ t767 (fun k_ => ((some k_ ≠ (.slice Ao15 t742.length co15 : Value).ownBlock ∧ (some k_ ≠ (.slice Ao17 t748.length co17 : Value).ownBlock ∧ (some k_ ≠ (.slice (some ad761) t752.length co54 : Value).ownBlock ∧ (some k_ ≠ (.slice Ao11 t736.length co11 : Value).ownBlock ∧ k_ ≠ gb751)))) ∧ some k_ ≠ (.slice Ao59 t767.length co59 : Value).ownBlock)) _ _ t739 true t771 _ ?side1 ?side2 ?side3 ?side4 A33.out).mono ?_
                    (case side1 => exact jL (jK rfl (kD (Kd.R_apart' (HO_752001.out) (Kd.N_typed HO_8.out) (by decide)) BK751.out (by decide))))
                    (case side2 => exact jL (jK rfl (kD (Kd.R_apart' (HO769.out) (Kd.N_typed HO_8.out) (by decide)) BK751.out (by decide))))
                    (case side3 => exact HO_4.out)
                    (case side4 => exact TabW.below HT.out (zT HB.out GE751.out))
                    rintro e w60 ⟨rfl, hb⟩
                    have HS2_ := (hb.cell (jG _ _ (hHeld.2.2.1))).trans (hHeld.2.2.1)
                    have HS3_ := (hb.cell (jG _ _ (hHeld.2.2.2))).trans (hHeld.2.2.2)
                    refine ⟨_, rfl, ?_⟩
                    replace HO_4 := zA (kG (zPV HO_4.out) hb)
                    replace HO_5 := zA (kL (zP HO_5.out) hb)
                    replace HO_6 := zA (kG (zPV HO_6.out) hb)
                    replace HO_7 := zA (kL (zP HO_7.out) hb)
                    replace HO_8 := zA (kZ (zPN HO_8.out) hb)
                    replace HO_752001 := zA (kL (zP HO_752001.out) hb)
                    replace HL761_0 := zA (kG (zPV HL761_0.out) hb)
                    replace HL762_0 := zA (kG (zPV HL762_0.out) hb)
                    replace HL765_0 := zA (kG (zPV HL765_0.out) hb)
                    replace HL766_0 := zA (kG (zPV HL766_0.out) hb)
                    replace HO769 := zA (kL (zP HO769.out) hb)
                    replace BK751 := zA (zB1 BK751.out hb)
                    replace HR761_0 := zA (kO (by repeat (first | (with_reducible exact HR761_0.out) | (with_reducible refine Kd.C_alloc ?_ _) | (with_reducible refine Kd.C_drewN ?_ _) | (with_reducible refine Kd.C_drew ?_) | exact HR761_0.out)) hb)
                    replace HR762_0 := zA (kO (by repeat (first | (with_reducible exact HR762_0.out) | (with_reducible refine Kd.C_alloc ?_ _) | (with_reducible refine Kd.C_drewN ?_ _) | (with_reducible refine Kd.C_drew ?_) | exact HR762_0.out)) hb)
                    replace HR765_0 := zA (kO (by repeat (first | (with_reducible exact HR765_0.out) | (with_reducible refine Kd.C_alloc ?_ _) | (with_reducible refine Kd.C_drewN ?_ _) | (with_reducible refine Kd.C_drew ?_) | exact HR765_0.out)) hb)
                    replace HR766_0 := zA (kO (by repeat (first | (with_reducible exact HR766_0.out) | (with_reducible refine Kd.C_alloc ?_ _) | (with_reducible refine Kd.C_drewN ?_ _) | (with_reducible refine Kd.C_drew ?_) | exact HR766_0.out)) hb)
                    replace HB := zA (kQ (zT HB.out GE751.out) hb)
                    (try clear hb)
                    (try clear hb2)
                    (try clear hk)
                    (try clear hi)
                    (try clear hgw)
                    refine hK.out _ _ ⟨(kV BK751.out 0).trans rfl, (kV BK751.out 1).trans rfl, HS2_, HS3_⟩ (fun hHeld => ?_)
                    clear hK K
                    refine norm_ (a' := ?_) ?_ ?_
                    rotate_left
                    ·show Act.put _ (some 87) _ = _
                     simp only [Act.put, zL, zM, zN, i64_w, i32_w]
                     rfl
                    refine zp 10 (some 77) #[true, true, true, true, true, true, true, true, true, true, true, false, false, false, false] HT_.out ?_
                    refine zp 11 (some 88) #[true, true, true, true, true, true, true, true, true, true, true, true, false, false, false] HT_.out ?_
                    refine zp 12 (some 89) #[true, true, true, true, true, true, true, true, true, true, true, true, true, false, false] HT_.out ?_
                    refine zp 13 (some 14) #[true, true, true, true, true, true, true, true, true, true, true, true, true, true, false] HT_.out ?_
                    refine zp 14 (some 15) #[true, true, true, true, true, true, true, true, true, true, true, true, true, true, true] HT_.out ?_
                    refine done_ (done_of HT_.out (by kernel_rfl)) ?_
                    try go_wp2
                    replace HO_4 := zA (Kd.V_drew HO_4.out)
                    replace HO_5 := zA (zH HO_5.out)
                    replace HO_6 := zA (Kd.V_drew HO_6.out)
                    replace HO_7 := zA (zH HO_7.out)
                    replace HO_8 := zA (Kd.N_drew HO_8.out)
                    replace HO_752001 := zA (zH HO_752001.out)
                    replace HL761_0 := zA (Kd.V_drew HL761_0.out)
                    replace HL762_0 := zA (Kd.V_drew HL762_0.out)
                    replace HL765_0 := zA (Kd.V_drew HL765_0.out)
                    replace HL766_0 := zA (Kd.V_drew HL766_0.out)
                    replace HO769 := zA (zH HO769.out)
                    replace BK751 := zA (zK BK751.out)
                    replace HR761_0 := zA (Kd.C_drew HR761_0.out)
                    replace HR762_0 := zA (Kd.C_drew HR762_0.out)
                    replace HR765_0 := zA (Kd.C_drew HR765_0.out)
                    replace HR766_0 := zA (Kd.C_drew HR766_0.out)
                    replace HB := zA (zD HB.out)
                    have p772 : 0 ≤ (2 : Int) := (by omega)
                    have q772 : 2 < (t752.length : Int) := zd
                    obtain ⟨ad772, A772_0, c772_0, e772, hx772_0, hl772_0, hi772_0⟩ := at_L1 (Kd.N_reads' HO_8.out).2.2 2 p772 q772
                    obtain rfl : ad761 = ad772 := (by injection e772)
                    obtain ⟨ce772, hce772, hMe772, hcc772⟩ := Kd.N_get HO_8.out [] 2 p772 (by first | exact q772 | exact zd | (have e_ := (Kd.N_reads' HO_8.out).1; omega))
                    obtain ⟨ua772_0, uc772_0, rfl, ul772_0, ge772_0⟩ := Kd.FK_slice_open hMe772
                    have hv772_0 := hcc772 0 _ rfl
                    rw [Nat.add_zero, show ((Kd.slice 2 (Kd.int .i64))).sz = 1 from rfl, Nat.mul_one] at hv772_0
                    replace hv772_0 := Option.some.inj (hv772_0.symm.trans hx772_0)
                    injection hv772_0 with hva_ hvn_ hvc_
                    rw [hva_] at ge772_0
                    rw [hvc_] at ul772_0
                    have HL772_0 := zA (show Kd.V (Kd.int .i64) 2 _ w.heap.size _ _ (rd_L1 t752 2) from Kd.V_mk ul772_0 ge772_0)
                    clear hva_ hvn_ hvc_ ge772_0 ul772_0 hcc772 hce772
                    (try simp only [show (2 : Int).toNat = 2 from rfl, Nat.reduceMul, Nat.reduceEqDiff, Go.Addr.add, ↓reduceIte] at hx772_0)
                    have qi772 : (2 < t752.length) = True := eq_true (by omega)
                    (try rw [show ((2 : Int)).toNat = 2 from rfl] at hx772_0)
                    have HR772_0 := zA hi772_0
                    have HC772_0 := zA hl772_0
                    clear hi772_0 hl772_0
                    replace p772 := eq_true p772
                    replace q772 := eq_true q772
                    have p773 : 0 ≤ (3 : Int) := (by omega)
                    have q773 : 3 < (t752.length : Int) := zd
                    obtain ⟨ad773, A773_0, c773_0, e773, hx773_0, hl773_0, hi773_0⟩ := at_L1 (Kd.N_reads' HO_8.out).2.2 3 p773 q773
                    obtain rfl : ad761 = ad773 := (by injection e773)
                    obtain ⟨ce773, hce773, hMe773, hcc773⟩ := Kd.N_get HO_8.out [] 3 p773 (by first | exact q773 | exact zd | (have e_ := (Kd.N_reads' HO_8.out).1; omega))
                    obtain ⟨ua773_0, uc773_0, rfl, ul773_0, ge773_0⟩ := Kd.FK_slice_open hMe773
                    have hv773_0 := hcc773 0 _ rfl
                    rw [Nat.add_zero, show ((Kd.slice 2 (Kd.int .i64))).sz = 1 from rfl, Nat.mul_one] at hv773_0
                    replace hv773_0 := Option.some.inj (hv773_0.symm.trans hx773_0)
                    injection hv773_0 with hva_ hvn_ hvc_
                    rw [hva_] at ge773_0
                    rw [hvc_] at ul773_0
                    have HL773_0 := zA (show Kd.V (Kd.int .i64) 2 _ w.heap.size _ _ (rd_L1 t752 3) from Kd.V_mk ul773_0 ge773_0)
                    clear hva_ hvn_ hvc_ ge773_0 ul773_0 hcc773 hce773
                    (try simp only [show (3 : Int).toNat = 3 from rfl, Nat.reduceMul, Nat.reduceEqDiff, Go.Addr.add, ↓reduceIte] at hx773_0)
                    have qi773 : (3 < t752.length) = True := eq_true (by omega)
                    (try rw [show ((3 : Int)).toNat = 3 from rfl] at hx773_0)
                    have HR773_0 := zA hi773_0
                    have HC773_0 := zA hl773_0
                    clear hi773_0 hl773_0
                    replace p773 := eq_true p773
                    replace q773 := eq_true q773
                    refine start_ (n := 15) (S := fun w' => w'.cell? ⟨gb751, 0, none⟩ = some (.int .i64 t735) ∧ w'.cell? ⟨gb751, 1, none⟩ = some (.slice Ao11 t736.length co11) ∧ w'.cell? ⟨ad761.block, ad761.off + 2, none⟩ = some (.slice A772_0 (rd_L1 t752 2).length c772_0) ∧ w'.cell? ⟨ad761.block, ad761.off + 3, none⟩ = some (.slice A773_0 (rd_L1 t752 3).length c773_0)) (ds := []) #[false, false, false, false, false, false, false, false, false, false, false, false, false, false, false] (by kernel_rfl) rfl rfl ⟨(kV BK751.out 0).trans rfl, (kV BK751.out 1).trans rfl, hx772_0, hx773_0⟩ (fun hHeld => ?_); refine with_tabW laws_FnLevi.tab14 laws_FnLevi.bits14 (fun HT_ HW_ => ?_)
                    generalize w60.drew = w61 at HO_4 HO_5 HO_6 HO_7 HO_8 HO_752001 HL761_0 HL762_0 HL765_0 HL766_0 HO769 BK751 HR761_0 HR762_0 HR765_0 HR766_0 HB HL772_0 HL773_0 HR772_0 HR773_0 hx772_0 hx773_0 hHeld ⊢
                    refine zp 1 (some 92) #[false, true, false, false, false, false, false, false, false, false, false, false, false, false, false] HT_.out ?_
                    refine zp 2 (some 93) #[false, true, true, false, false, false, false, false, false, false, false, false, false, false, false] HT_.out ?_
                    refine zp 4 (some 95) #[false, true, true, false, true, false, false, false, false, false, false, false, false, false, false] HT_.out ?_
                    refine zp 5 (some 96) #[false, true, true, false, true, true, false, false, false, false, false, false, false, false, false] HT_.out ?_
                    refine zp 8 (some 99) #[false, true, true, false, true, true, false, false, true, false, false, false, false, false, false] HT_.out ?_
                    refine zf 0 (some 91) #[true, true, true, false, true, true, false, false, true, false, false, false, false, false, false] HT_.out HW_.out hHeld ?_
                    refine zf 3 (some 94) #[true, true, true, true, true, true, false, false, true, false, false, false, false, false, false] HT_.out HW_.out hHeld ?_
                    refine zf 6 (some 97) #[true, true, true, true, true, true, true, false, true, false, false, false, false, false, false] HT_.out HW_.out hHeld ?_
                    refine one_ (i := 7) (N := some 98) #[true, true, true, true, true, true, true, true, true, false, false, false, false, false, false] rfl rfl (one_of HT_.out (by kernel_rfl)) (by decide) (fun K hK => ?_)
                    refine goes_ Tryd.func52 (by kernel_rfl) rfl #[.slice A772_0 (rd_L1 t752 2).length c772_0, .slice A773_0 (rd_L1 t752 3).length c773_0] (by rfl) rfl rfl zg ?_
                    with_reducible refine (laws_join5.calls _ _ (rd_L1 t752 2) _ _ (rd_L1 t752 3) t774 _ ?side1 ?side2 ?side3 ?side4 A35.out).mono ?_
                    (case side1 => repeat (first | exact (by repeat (first | (with_reducible exact HR772_0.out) | (with_reducible refine Kd.C_alloc ?_ _) | (with_reducible refine Kd.C_drewN ?_ _) | (with_reducible refine Kd.C_drew ?_) | exact HR772_0.out)) | (with_reducible refine Kd.C_alloc ?_ _) | (with_reducible refine Kd.C_drewN ?_ _) | (with_reducible refine Kd.C_drew ?_)))
                    (case side2 => exact HC772_0.out)
                    (case side3 => repeat (first | exact (by repeat (first | (with_reducible exact HR773_0.out) | (with_reducible refine Kd.C_alloc ?_ _) | (with_reducible refine Kd.C_drewN ?_ _) | (with_reducible refine Kd.C_drew ?_) | exact HR773_0.out)) | (with_reducible refine Kd.C_alloc ?_ _) | (with_reducible refine Kd.C_drewN ?_ _) | (with_reducible refine Kd.C_drew ?_)))
                    (case side4 => exact HC773_0.out)
                    rintro e w62 ⟨v775, rfl, ho0, hb⟩
                    have HS2_ := (hb.cell (jG _ _ (hHeld.2.2.1))).trans (hHeld.2.2.1)
                    have HS3_ := (hb.cell (jG _ _ (hHeld.2.2.2))).trans (hHeld.2.2.2)
                    refine ⟨_, rfl, ?_⟩
                    replace HO_4 := zA (kK (zPV HO_4.out) (kC ho0) hb)
                    replace HO_6 := zA (kK (zPV HO_6.out) (kC ho0) hb)
                    replace HO_8 := zA (Kd.N_elder' (zPN HO_8.out) (kC ho0) hb)
                    replace HL761_0 := zA (kK (zPV HL761_0.out) (kC ho0) hb)
                    replace HL762_0 := zA (kK (zPV HL762_0.out) (kC ho0) hb)
                    replace HL765_0 := zA (kK (zPV HL765_0.out) (kC ho0) hb)
                    replace HL766_0 := zA (kK (zPV HL766_0.out) (kC ho0) hb)
                    replace HL772_0 := zA (kK (zPV HL772_0.out) (kC ho0) hb)
                    replace HL773_0 := zA (kK (zPV HL773_0.out) (kC ho0) hb)
                    have HO776 := zA (kI (kF (kF (kF (kF ho0 (kH (zP HO_5.out))) (kH (zP HO_7.out))) (kH (zP HO_752001.out))) (kH (zP HO769.out))) (kP (zT HB.out GE751.out)))
                    replace HO_5 := zA (kE (zP HO_5.out) (kC ho0) hb)
                    replace HO_7 := zA (kE (zP HO_7.out) (kC ho0) hb)
                    replace HO_752001 := zA (kE (zP HO_752001.out) (kC ho0) hb)
                    replace HO769 := zA (kE (zP HO769.out) (kC ho0) hb)
                    replace BK751 := zA (zB1 BK751.out hb)
                    replace HR761_0 := zA (kO (by repeat (first | (with_reducible exact HR761_0.out) | (with_reducible refine Kd.C_alloc ?_ _) | (with_reducible refine Kd.C_drewN ?_ _) | (with_reducible refine Kd.C_drew ?_) | exact HR761_0.out)) hb)
                    replace HR762_0 := zA (kO (by repeat (first | (with_reducible exact HR762_0.out) | (with_reducible refine Kd.C_alloc ?_ _) | (with_reducible refine Kd.C_drewN ?_ _) | (with_reducible refine Kd.C_drew ?_) | exact HR762_0.out)) hb)
                    replace HR765_0 := zA (kO (by repeat (first | (with_reducible exact HR765_0.out) | (with_reducible refine Kd.C_alloc ?_ _) | (with_reducible refine Kd.C_drewN ?_ _) | (with_reducible refine Kd.C_drew ?_) | exact HR765_0.out)) hb)
                    replace HR766_0 := zA (kO (by repeat (first | (with_reducible exact HR766_0.out) | (with_reducible refine Kd.C_alloc ?_ _) | (with_reducible refine Kd.C_drewN ?_ _) | (with_reducible refine Kd.C_drew ?_) | exact HR766_0.out)) hb)
                    replace HR772_0 := zA (kO (by repeat (first | (with_reducible exact HR772_0.out) | (with_reducible refine Kd.C_alloc ?_ _) | (with_reducible refine Kd.C_drewN ?_ _) | (with_reducible refine Kd.C_drew ?_) | exact HR772_0.out)) hb)
                    replace HR773_0 := zA (kO (by repeat (first | (with_reducible exact HR773_0.out) | (with_reducible refine Kd.C_alloc ?_ _) | (with_reducible refine Kd.C_drewN ?_ _) | (with_reducible refine Kd.C_drew ?_) | exact HR773_0.out)) hb)
                    replace HB := zA (kQ (zT HB.out GE751.out) hb)
                    (try clear hb)
                    (try clear hb2)
                    (try clear hk)
                    (try clear hi)
                    (try clear hgw)
                    (try clear ho0)
                    obtain ⟨Ao63, co63, eo63⟩ := kM HO776.out
                    (first | subst eo63 | (injection eo63 with f1_ f2_ f3_; have f4_ := f1_.symm; have f5_ := f3_.symm; clear f1_ f2_ f3_; subst f4_; subst f5_))
                    refine hK.out _ _ ⟨(kV BK751.out 0).trans rfl, (kV BK751.out 1).trans rfl, HS2_, HS3_⟩ (fun hHeld => ?_)
                    clear hK K
                    refine norm_ (a' := ?_) ?_ ?_
                    rotate_left
                    ·show Act.put _ (some 98) _ = _
                     simp only [Act.put, zL, zM, zN, i64_w, i32_w]
                     rfl
                    refine one_ (i := 9) (N := some 100) #[true, true, true, true, true, true, true, true, true, true, false, false, false, false, false] rfl rfl (one_of HT_.out (by kernel_rfl)) (by decide) (fun K hK => ?_)
                    refine goes_ Tryd.func51 (by kernel_rfl) rfl #[.agg #[.int .i64 t735, .slice Ao11 t736.length co11], .slice Ao63 t774.length co63, .slice Ao15 t742.length co15] (by rfl) rfl rfl zg ?_
                    with_reducible refine (impl_AreSameTrace.calls kj6 t735 (fun k_ => some k_ = (.slice Ao11 t736.length co11 : Value).ownBlock) _ _ t736 (fun k_ => some k_ = (.slice Ao63 t774.length co63 : Value).ownBlock) _ _ t774 (fun k_ => some k_ = (.slice Ao15 t742.length co15 : Value).ownBlock) _ _ t742 true t778 _ ?side1 ?side2 ?side3 ?side4 A36.out).mono ?_
                    (case side1 => exact jL (jK rfl (kD (Kd.R_apart' (HO_752001.out) (Kd.N_typed HO_8.out) (by decide)) BK751.out (by decide))))
                    (case side2 => exact jL (jK rfl (kD (Kd.R_apart' (HO776.out) (Kd.N_typed HO_8.out) (by decide)) BK751.out (by decide))))
                    (case side3 => exact jL (jK rfl (kD (Kd.R_apart' (HO_5.out) (Kd.N_typed HO_8.out) (by decide)) BK751.out (by decide))))
                    (case side4 => exact TabW.below HT.out (zT HB.out GE751.out))
                    rintro e w64 ⟨rfl, hb⟩
                    have HS2_ := (hb.cell (jG _ _ (hHeld.2.2.1))).trans (hHeld.2.2.1)
                    have HS3_ := (hb.cell (jG _ _ (hHeld.2.2.2))).trans (hHeld.2.2.2)
                    refine ⟨_, rfl, ?_⟩
                    replace HO_4 := zA (kG (zPV HO_4.out) hb)
                    replace HO_5 := zA (kL (zP HO_5.out) hb)
                    replace HO_6 := zA (kG (zPV HO_6.out) hb)
                    replace HO_7 := zA (kL (zP HO_7.out) hb)
                    replace HO_8 := zA (kZ (zPN HO_8.out) hb)
                    replace HO_752001 := zA (kL (zP HO_752001.out) hb)
                    replace HL761_0 := zA (kG (zPV HL761_0.out) hb)
                    replace HL762_0 := zA (kG (zPV HL762_0.out) hb)
                    replace HL765_0 := zA (kG (zPV HL765_0.out) hb)
                    replace HL766_0 := zA (kG (zPV HL766_0.out) hb)
                    replace HO769 := zA (kL (zP HO769.out) hb)
                    replace HL772_0 := zA (kG (zPV HL772_0.out) hb)
                    replace HL773_0 := zA (kG (zPV HL773_0.out) hb)
                    replace HO776 := zA (kL (zP HO776.out) hb)
                    replace BK751 := zA (zB1 BK751.out hb)
                    replace HR761_0 := zA (kO (by repeat (first | (with_reducible exact HR761_0.out) | (with_reducible refine Kd.C_alloc ?_ _) | (with_reducible refine Kd.C_drewN ?_ _) | (with_reducible refine Kd.C_drew ?_) | exact HR761_0.out)) hb)
                    replace HR762_0 := zA (kO (by repeat (first | (with_reducible exact HR762_0.out) | (with_reducible refine Kd.C_alloc ?_ _) | (with_reducible refine Kd.C_drewN ?_ _) | (with_reducible refine Kd.C_drew ?_) | exact HR762_0.out)) hb)
                    replace HR765_0 := zA (kO (by repeat (first | (with_reducible exact HR765_0.out) | (with_reducible refine Kd.C_alloc ?_ _) | (with_reducible refine Kd.C_drewN ?_ _) | (with_reducible refine Kd.C_drew ?_) | exact HR765_0.out)) hb)
                    replace HR766_0 := zA (kO (by repeat (first | (with_reducible exact HR766_0.out) | (with_reducible refine Kd.C_alloc ?_ _) | (with_reducible refine Kd.C_drewN ?_ _) | (with_reducible refine Kd.C_drew ?_) | exact HR766_0.out)) hb)
                    replace HR772_0 := zA (kO (by repeat (first | (with_reducible exact HR772_0.out) | (with_reducible refine Kd.C_alloc ?_ _) | (with_reducible refine Kd.C_drewN ?_ _) | (with_reducible refine Kd.C_drew ?_) | exact HR772_0.out)) hb)
                    replace HR773_0 := zA (kO (by repeat (first | (with_reducible exact HR773_0.out) | (with_reducible refine Kd.C_alloc ?_ _) | (with_reducible refine Kd.C_drewN ?_ _) | (with_reducible refine Kd.C_drew ?_) | exact HR773_0.out)) hb)
                    replace HB := zA (kQ (zT HB.out GE751.out) hb)
                    (try clear hb)
                    (try clear hb2)
                    (try clear hk)
                    (try clear hi)
                    (try clear hgw)
                    refine hK.out _ _ ⟨(kV BK751.out 0).trans rfl, (kV BK751.out 1).trans rfl, HS2_, HS3_⟩ (fun hHeld => ?_)
                    clear hK K
                    refine norm_ (a' := ?_) ?_ ?_
                    rotate_left
                    ·show Act.put _ (some 100) _ = _
                     simp only [Act.put, zL, zM, zN, i64_w, i32_w]
                     rfl
                    refine zp 10 (some 90) #[true, true, true, true, true, true, true, true, true, true, true, false, false, false, false] HT_.out ?_
                    refine zp 11 (some 101) #[true, true, true, true, true, true, true, true, true, true, true, true, false, false, false] HT_.out ?_
                    refine zp 12 (some 102) #[true, true, true, true, true, true, true, true, true, true, true, true, true, false, false] HT_.out ?_
                    refine zp 13 (some 16) #[true, true, true, true, true, true, true, true, true, true, true, true, true, true, false] HT_.out ?_
                    refine zp 14 (some 17) #[true, true, true, true, true, true, true, true, true, true, true, true, true, true, true] HT_.out ?_
                    refine done_ (done_of HT_.out (by kernel_rfl)) ?_
                    try go_wp2
                    replace HO_4 := zA (Kd.V_drew HO_4.out)
                    replace HO_5 := zA (zH HO_5.out)
                    replace HO_6 := zA (Kd.V_drew HO_6.out)
                    replace HO_7 := zA (zH HO_7.out)
                    replace HO_8 := zA (Kd.N_drew HO_8.out)
                    replace HO_752001 := zA (zH HO_752001.out)
                    replace HL761_0 := zA (Kd.V_drew HL761_0.out)
                    replace HL762_0 := zA (Kd.V_drew HL762_0.out)
                    replace HL765_0 := zA (Kd.V_drew HL765_0.out)
                    replace HL766_0 := zA (Kd.V_drew HL766_0.out)
                    replace HO769 := zA (zH HO769.out)
                    replace HL772_0 := zA (Kd.V_drew HL772_0.out)
                    replace HL773_0 := zA (Kd.V_drew HL773_0.out)
                    replace HO776 := zA (zH HO776.out)
                    replace BK751 := zA (zK BK751.out)
                    replace HR761_0 := zA (Kd.C_drew HR761_0.out)
                    replace HR762_0 := zA (Kd.C_drew HR762_0.out)
                    replace HR765_0 := zA (Kd.C_drew HR765_0.out)
                    replace HR766_0 := zA (Kd.C_drew HR766_0.out)
                    replace HR772_0 := zA (Kd.C_drew HR772_0.out)
                    replace HR773_0 := zA (Kd.C_drew HR773_0.out)
                    replace HB := zA (zD HB.out)
                    have p779 : 0 ≤ (0 : Int) := (by omega)
                    have q779 : 0 < (t752.length : Int) := zd
                    obtain ⟨ad779, A779_0, c779_0, e779, hx779_0, hl779_0, hi779_0⟩ := at_L1 (Kd.N_reads' HO_8.out).2.2 0 p779 q779
                    obtain rfl : ad761 = ad779 := (by injection e779)
                    obtain ⟨ce779, hce779, hMe779, hcc779⟩ := Kd.N_get HO_8.out [] 0 p779 (by first | exact q779 | exact zd | (have e_ := (Kd.N_reads' HO_8.out).1; omega))
                    obtain ⟨ua779_0, uc779_0, rfl, ul779_0, ge779_0⟩ := Kd.FK_slice_open hMe779
                    have hv779_0 := hcc779 0 _ rfl
                    rw [Nat.add_zero, show ((Kd.slice 2 (Kd.int .i64))).sz = 1 from rfl, Nat.mul_one] at hv779_0
                    replace hv779_0 := Option.some.inj (hv779_0.symm.trans hx779_0)
                    injection hv779_0 with hva_ hvn_ hvc_
                    rw [hva_] at ge779_0
                    rw [hvc_] at ul779_0
                    have HL779_0 := zA (show Kd.V (Kd.int .i64) 2 _ w.heap.size _ _ (rd_L1 t752 0) from Kd.V_mk ul779_0 ge779_0)
                    clear hva_ hvn_ hvc_ ge779_0 ul779_0 hcc779 hce779
                    have qi779 : (0 < t752.length) = True := eq_true (by omega)
                    (try rw [show ((0 : Int)).toNat = 0 from rfl] at hx779_0)
                    (try rw [Addr.add_zero'] at hx779_0)
                    have HR779_0 := zA hi779_0
                    have HC779_0 := zA hl779_0
                    clear hi779_0 hl779_0
                    replace p779 := eq_true p779
                    replace q779 := eq_true q779
                    have p780 : 0 ≤ (2 : Int) := (by omega)
                    have q780 : 2 < (t752.length : Int) := zd
                    obtain ⟨ad780, A780_0, c780_0, e780, hx780_0, hl780_0, hi780_0⟩ := at_L1 (Kd.N_reads' HO_8.out).2.2 2 p780 q780
                    obtain rfl : ad761 = ad780 := (by injection e780)
                    obtain ⟨ce780, hce780, hMe780, hcc780⟩ := Kd.N_get HO_8.out [] 2 p780 (by first | exact q780 | exact zd | (have e_ := (Kd.N_reads' HO_8.out).1; omega))
                    obtain ⟨ua780_0, uc780_0, rfl, ul780_0, ge780_0⟩ := Kd.FK_slice_open hMe780
                    have hv780_0 := hcc780 0 _ rfl
                    rw [Nat.add_zero, show ((Kd.slice 2 (Kd.int .i64))).sz = 1 from rfl, Nat.mul_one] at hv780_0
                    replace hv780_0 := Option.some.inj (hv780_0.symm.trans hx780_0)
                    injection hv780_0 with hva_ hvn_ hvc_
                    rw [hva_] at ge780_0
                    rw [hvc_] at ul780_0
                    have HL780_0 := zA (show Kd.V (Kd.int .i64) 2 _ w.heap.size _ _ (rd_L1 t752 2) from Kd.V_mk ul780_0 ge780_0)
                    clear hva_ hvn_ hvc_ ge780_0 ul780_0 hcc780 hce780
                    (try simp only [show (2 : Int).toNat = 2 from rfl, Nat.reduceMul, Nat.reduceEqDiff, Go.Addr.add, ↓reduceIte] at hx780_0)
                    have qi780 : (2 < t752.length) = True := eq_true (by omega)
                    (try rw [show ((2 : Int)).toNat = 2 from rfl] at hx780_0)
                    have HR780_0 := zA hi780_0
                    have HC780_0 := zA hl780_0
                    clear hi780_0 hl780_0
                    replace p780 := eq_true p780
                    replace q780 := eq_true q780
                    refine start_ (n := 15) (S := fun w' => w'.cell? ⟨gb751, 0, none⟩ = some (.int .i64 t735) ∧ w'.cell? ⟨gb751, 1, none⟩ = some (.slice Ao11 t736.length co11) ∧ w'.cell? ad761 = some (.slice A779_0 (rd_L1 t752 0).length c779_0) ∧ w'.cell? ⟨ad761.block, ad761.off + 2, none⟩ = some (.slice A780_0 (rd_L1 t752 2).length c780_0)) (ds := []) #[false, false, false, false, false, false, false, false, false, false, false, false, false, false, false] (by kernel_rfl) rfl rfl ⟨(kV BK751.out 0).trans rfl, (kV BK751.out 1).trans rfl, hx779_0, hx780_0⟩ (fun hHeld => ?_); refine with_tabW laws_FnLevi.tab15 laws_FnLevi.bits15 (fun HT_ HW_ => ?_)
                    generalize w64.drew = w65 at HO_4 HO_5 HO_6 HO_7 HO_8 HO_752001 HL761_0 HL762_0 HL765_0 HL766_0 HO769 HL772_0 HL773_0 HO776 BK751 HR761_0 HR762_0 HR765_0 HR766_0 HR772_0 HR773_0 HB HL779_0 HL780_0 HR779_0 HR780_0 hx779_0 hx780_0 hHeld ⊢
                    refine zp 1 (some 105) #[false, true, false, false, false, false, false, false, false, false, false, false, false, false, false] HT_.out ?_
                    refine zp 2 (some 106) #[false, true, true, false, false, false, false, false, false, false, false, false, false, false, false] HT_.out ?_
                    refine zp 4 (some 108) #[false, true, true, false, true, false, false, false, false, false, false, false, false, false, false] HT_.out ?_
                    refine zp 5 (some 109) #[false, true, true, false, true, true, false, false, false, false, false, false, false, false, false] HT_.out ?_
                    refine zp 8 (some 112) #[false, true, true, false, true, true, false, false, true, false, false, false, false, false, false] HT_.out ?_
                    refine zf 0 (some 104) #[true, true, true, false, true, true, false, false, true, false, false, false, false, false, false] HT_.out HW_.out hHeld ?_
                    refine zf 3 (some 107) #[true, true, true, true, true, true, false, false, true, false, false, false, false, false, false] HT_.out HW_.out hHeld ?_
                    refine zf 6 (some 110) #[true, true, true, true, true, true, true, false, true, false, false, false, false, false, false] HT_.out HW_.out hHeld ?_
                    refine one_ (i := 7) (N := some 111) #[true, true, true, true, true, true, true, true, true, false, false, false, false, false, false] rfl rfl (one_of HT_.out (by kernel_rfl)) (by decide) (fun K hK => ?_)
                    refine goes_ Tryd.func52 (by kernel_rfl) rfl #[.slice A779_0 (rd_L1 t752 0).length c779_0, .slice A780_0 (rd_L1 t752 2).length c780_0] (by rfl) rfl rfl zg ?_
                    with_reducible refine (laws_join5.calls _ _ (rd_L1 t752 0) _ _ (rd_L1 t752 2) t781 _ ?side1 ?side2 ?side3 ?side4 A37.out).mono ?_
                    (case side1 => repeat (first | exact (by repeat (first | (with_reducible exact HR779_0.out) | (with_reducible refine Kd.C_alloc ?_ _) | (with_reducible refine Kd.C_drewN ?_ _) | (with_reducible refine Kd.C_drew ?_) | exact HR779_0.out)) | (with_reducible refine Kd.C_alloc ?_ _) | (with_reducible refine Kd.C_drewN ?_ _) | (with_reducible refine Kd.C_drew ?_)))
                    (case side2 => exact HC779_0.out)
                    (case side3 => repeat (first | exact (by repeat (first | (with_reducible exact HR780_0.out) | (with_reducible refine Kd.C_alloc ?_ _) | (with_reducible refine Kd.C_drewN ?_ _) | (with_reducible refine Kd.C_drew ?_) | exact HR780_0.out)) | (with_reducible refine Kd.C_alloc ?_ _) | (with_reducible refine Kd.C_drewN ?_ _) | (with_reducible refine Kd.C_drew ?_)))
                    (case side4 => exact HC780_0.out)
                    rintro e w66 ⟨v782, rfl, ho0, hb⟩
                    have HS2_ := (hb.cell (jG _ _ (hHeld.2.2.1))).trans (hHeld.2.2.1)
                    have HS3_ := (hb.cell (jG _ _ (hHeld.2.2.2))).trans (hHeld.2.2.2)
                    refine ⟨_, rfl, ?_⟩
                    replace HO_4 := zA (kK (zPV HO_4.out) (kC ho0) hb)
                    replace HO_6 := zA (kK (zPV HO_6.out) (kC ho0) hb)
                    replace HO_8 := zA (Kd.N_elder' (zPN HO_8.out) (kC ho0) hb)
                    replace HL761_0 := zA (kK (zPV HL761_0.out) (kC ho0) hb)
                    replace HL762_0 := zA (kK (zPV HL762_0.out) (kC ho0) hb)
                    replace HL765_0 := zA (kK (zPV HL765_0.out) (kC ho0) hb)
                    replace HL766_0 := zA (kK (zPV HL766_0.out) (kC ho0) hb)
                    replace HL772_0 := zA (kK (zPV HL772_0.out) (kC ho0) hb)
                    replace HL773_0 := zA (kK (zPV HL773_0.out) (kC ho0) hb)
                    replace HL779_0 := zA (kK (zPV HL779_0.out) (kC ho0) hb)
                    replace HL780_0 := zA (kK (zPV HL780_0.out) (kC ho0) hb)
                    have HO783 := zA (kI (kF (kF (kF (kF (kF ho0 (kH (zP HO_5.out))) (kH (zP HO_7.out))) (kH (zP HO_752001.out))) (kH (zP HO769.out))) (kH (zP HO776.out))) (kP (zT HB.out GE751.out)))
                    replace HO_5 := zA (kE (zP HO_5.out) (kC ho0) hb)
                    replace HO_7 := zA (kE (zP HO_7.out) (kC ho0) hb)
                    replace HO_752001 := zA (kE (zP HO_752001.out) (kC ho0) hb)
                    replace HO769 := zA (kE (zP HO769.out) (kC ho0) hb)
                    replace HO776 := zA (kE (zP HO776.out) (kC ho0) hb)
                    replace BK751 := zA (zB1 BK751.out hb)
                    replace HR761_0 := zA (kO (by repeat (first | (with_reducible exact HR761_0.out) | (with_reducible refine Kd.C_alloc ?_ _) | (with_reducible refine Kd.C_drewN ?_ _) | (with_reducible refine Kd.C_drew ?_) | exact HR761_0.out)) hb)
                    replace HR762_0 := zA (kO (by repeat (first | (with_reducible exact HR762_0.out) | (with_reducible refine Kd.C_alloc ?_ _) | (with_reducible refine Kd.C_drewN ?_ _) | (with_reducible refine Kd.C_drew ?_) | exact HR762_0.out)) hb)
                    replace HR765_0 := zA (kO (by repeat (first | (with_reducible exact HR765_0.out) | (with_reducible refine Kd.C_alloc ?_ _) | (with_reducible refine Kd.C_drewN ?_ _) | (with_reducible refine Kd.C_drew ?_) | exact HR765_0.out)) hb)
                    replace HR766_0 := zA (kO (by repeat (first | (with_reducible exact HR766_0.out) | (with_reducible refine Kd.C_alloc ?_ _) | (with_reducible refine Kd.C_drewN ?_ _) | (with_reducible refine Kd.C_drew ?_) | exact HR766_0.out)) hb)
                    replace HR772_0 := zA (kO (by repeat (first | (with_reducible exact HR772_0.out) | (with_reducible refine Kd.C_alloc ?_ _) | (with_reducible refine Kd.C_drewN ?_ _) | (with_reducible refine Kd.C_drew ?_) | exact HR772_0.out)) hb)
                    replace HR773_0 := zA (kO (by repeat (first | (with_reducible exact HR773_0.out) | (with_reducible refine Kd.C_alloc ?_ _) | (with_reducible refine Kd.C_drewN ?_ _) | (with_reducible refine Kd.C_drew ?_) | exact HR773_0.out)) hb)
                    replace HR779_0 := zA (kO (by repeat (first | (with_reducible exact HR779_0.out) | (with_reducible refine Kd.C_alloc ?_ _) | (with_reducible refine Kd.C_drewN ?_ _) | (with_reducible refine Kd.C_drew ?_) | exact HR779_0.out)) hb)
                    replace HR780_0 := zA (kO (by repeat (first | (with_reducible exact HR780_0.out) | (with_reducible refine Kd.C_alloc ?_ _) | (with_reducible refine Kd.C_drewN ?_ _) | (with_reducible refine Kd.C_drew ?_) | exact HR780_0.out)) hb)
                    replace HB := zA (kQ (zT HB.out GE751.out) hb)
                    (try clear hb)
                    (try clear hb2)
                    (try clear hk)
                    (try clear hi)
                    (try clear hgw)
                    (try clear ho0)
                    obtain ⟨Ao67, co67, eo67⟩ := kM HO783.out
                    (first | subst eo67 | (injection eo67 with f1_ f2_ f3_; have f4_ := f1_.symm; have f5_ := f3_.symm; clear f1_ f2_ f3_; subst f4_; subst f5_))
                    refine hK.out _ _ ⟨(kV BK751.out 0).trans rfl, (kV BK751.out 1).trans rfl, HS2_, HS3_⟩ (fun hHeld => ?_)
                    clear hK K
                    refine norm_ (a' := ?_) ?_ ?_
                    rotate_left
                    ·show Act.put _ (some 111) _ = _
                     simp only [Act.put, zL, zM, zN, i64_w, i32_w]
                     rfl
                    refine one_ (i := 9) (N := some 113) #[true, true, true, true, true, true, true, true, true, true, false, false, false, false, false] rfl rfl (one_of HT_.out (by kernel_rfl)) (by decide) (fun K hK => ?_)
                    refine goes_ Tryd.func51 (by kernel_rfl) rfl #[.agg #[.int .i64 t735, .slice Ao11 t736.length co11], .slice Ao67 t781.length co67, .slice Ao16 t745.length co16] (by rfl) rfl rfl zg ?_
                    with_reducible refine (impl_AreSameTrace.calls kj6 t735 (fun k_ => some k_ = (.slice Ao11 t736.length co11 : Value).ownBlock) _ _ t736 (fun k_ => some k_ = (.slice Ao67 t781.length co67 : Value).ownBlock) _ _ t781 (fun k_ => ((((some k_ ≠ (.slice Ao15 t742.length co15 : Value).ownBlock ∧ (some k_ ≠ (.slice Ao17 t748.length co17 : Value).ownBlock ∧ (some k_ ≠ (.slice (some ad761) t752.length co54 : Value).ownBlock ∧ (some k_ ≠ (.slice Ao11 t736.length co11 : Value).ownBlock ∧ k_ ≠ gb751)))) ∧ some k_ ≠ (.slice Ao59 t767.length co59 : Value).ownBlock) ∧ some k_ ≠ (.slice Ao63 t774.length co63 : Value).ownBlock) ∧ some k_ ≠ (.slice Ao67 t781.length co67 : Value).ownBlock)) _ _ t745 true t785 _ ?side1 ?side2 ?side3 ?side4 A38.out).mono ?_
                    (case side1 => exact jL (jK rfl (kD (Kd.R_apart' (HO_752001.out) (Kd.N_typed HO_8.out) (by decide)) BK751.out (by decide))))
                    (case side2 => exact jL (jK rfl (kD (Kd.R_apart' (HO783.out) (Kd.N_typed HO_8.out) (by decide)) BK751.out (by decide))))
                    (case side3 => exact HO_6.out)
                    (case side4 => exact TabW.below HT.out (zT HB.out GE751.out))
                    rintro e w68 ⟨rfl, hb⟩
                    have HS2_ := (hb.cell (jG _ _ (hHeld.2.2.1))).trans (hHeld.2.2.1)
                    have HS3_ := (hb.cell (jG _ _ (hHeld.2.2.2))).trans (hHeld.2.2.2)
                    refine ⟨_, rfl, ?_⟩
                    replace HO_4 := zA (kG (zPV HO_4.out) hb)
                    replace HO_5 := zA (kL (zP HO_5.out) hb)
                    replace HO_6 := zA (kG (zPV HO_6.out) hb)
                    replace HO_7 := zA (kL (zP HO_7.out) hb)
                    replace HO_8 := zA (kZ (zPN HO_8.out) hb)
                    replace HO_752001 := zA (kL (zP HO_752001.out) hb)
                    replace HL761_0 := zA (kG (zPV HL761_0.out) hb)
                    replace HL762_0 := zA (kG (zPV HL762_0.out) hb)
                    replace HL765_0 := zA (kG (zPV HL765_0.out) hb)
                    replace HL766_0 := zA (kG (zPV HL766_0.out) hb)
                    replace HO769 := zA (kL (zP HO769.out) hb)
                    replace HL772_0 := zA (kG (zPV HL772_0.out) hb)
                    replace HL773_0 := zA (kG (zPV HL773_0.out) hb)
                    replace HO776 := zA (kL (zP HO776.out) hb)
                    replace HL779_0 := zA (kG (zPV HL779_0.out) hb)
                    replace HL780_0 := zA (kG (zPV HL780_0.out) hb)
                    replace HO783 := zA (kL (zP HO783.out) hb)
                    replace BK751 := zA (zB1 BK751.out hb)
                    replace HR761_0 := zA (kO (by repeat (first | (with_reducible exact HR761_0.out) | (with_reducible refine Kd.C_alloc ?_ _) | (with_reducible refine Kd.C_drewN ?_ _) | (with_reducible refine Kd.C_drew ?_) | exact HR761_0.out)) hb)
                    replace HR762_0 := zA (kO (by repeat (first | (with_reducible exact HR762_0.out) | (with_reducible refine Kd.C_alloc ?_ _) | (with_reducible refine Kd.C_drewN ?_ _) | (with_reducible refine Kd.C_drew ?_) | exact HR762_0.out)) hb)
                    replace HR765_0 := zA (kO (by repeat (first | (with_reducible exact HR765_0.out) | (with_reducible refine Kd.C_alloc ?_ _) | (with_reducible refine Kd.C_drewN ?_ _) | (with_reducible refine Kd.C_drew ?_) | exact HR765_0.out)) hb)
                    replace HR766_0 := zA (kO (by repeat (first | (with_reducible exact HR766_0.out) | (with_reducible refine Kd.C_alloc ?_ _) | (with_reducible refine Kd.C_drewN ?_ _) | (with_reducible refine Kd.C_drew ?_) | exact HR766_0.out)) hb)
                    replace HR772_0 := zA (kO (by repeat (first | (with_reducible exact HR772_0.out) | (with_reducible refine Kd.C_alloc ?_ _) | (with_reducible refine Kd.C_drewN ?_ _) | (with_reducible refine Kd.C_drew ?_) | exact HR772_0.out)) hb)
                    replace HR773_0 := zA (kO (by repeat (first | (with_reducible exact HR773_0.out) | (with_reducible refine Kd.C_alloc ?_ _) | (with_reducible refine Kd.C_drewN ?_ _) | (with_reducible refine Kd.C_drew ?_) | exact HR773_0.out)) hb)
                    replace HR779_0 := zA (kO (by repeat (first | (with_reducible exact HR779_0.out) | (with_reducible refine Kd.C_alloc ?_ _) | (with_reducible refine Kd.C_drewN ?_ _) | (with_reducible refine Kd.C_drew ?_) | exact HR779_0.out)) hb)
                    replace HR780_0 := zA (kO (by repeat (first | (with_reducible exact HR780_0.out) | (with_reducible refine Kd.C_alloc ?_ _) | (with_reducible refine Kd.C_drewN ?_ _) | (with_reducible refine Kd.C_drew ?_) | exact HR780_0.out)) hb)
                    replace HB := zA (kQ (zT HB.out GE751.out) hb)
                    (try clear hb)
                    (try clear hb2)
                    (try clear hk)
                    (try clear hi)
                    (try clear hgw)
                    refine hK.out _ _ ⟨(kV BK751.out 0).trans rfl, (kV BK751.out 1).trans rfl, HS2_, HS3_⟩ (fun hHeld => ?_)
                    clear hK K
                    refine norm_ (a' := ?_) ?_ ?_
                    rotate_left
                    ·show Act.put _ (some 113) _ = _
                     simp only [Act.put, zL, zM, zN, i64_w, i32_w]
                     rfl
                    refine zp 10 (some 103) #[true, true, true, true, true, true, true, true, true, true, true, false, false, false, false] HT_.out ?_
                    refine zp 11 (some 114) #[true, true, true, true, true, true, true, true, true, true, true, true, false, false, false] HT_.out ?_
                    refine zp 12 (some 115) #[true, true, true, true, true, true, true, true, true, true, true, true, true, false, false] HT_.out ?_
                    refine zp 13 (some 18) #[true, true, true, true, true, true, true, true, true, true, true, true, true, true, false] HT_.out ?_
                    refine zp 14 (some 19) #[true, true, true, true, true, true, true, true, true, true, true, true, true, true, true] HT_.out ?_
                    refine done_ (done_of HT_.out (by kernel_rfl)) ?_
                    try go_wp2
                    replace HO_4 := zA (Kd.V_drew HO_4.out)
                    replace HO_5 := zA (zH HO_5.out)
                    replace HO_6 := zA (Kd.V_drew HO_6.out)
                    replace HO_7 := zA (zH HO_7.out)
                    replace HO_8 := zA (Kd.N_drew HO_8.out)
                    replace HO_752001 := zA (zH HO_752001.out)
                    replace HL761_0 := zA (Kd.V_drew HL761_0.out)
                    replace HL762_0 := zA (Kd.V_drew HL762_0.out)
                    replace HL765_0 := zA (Kd.V_drew HL765_0.out)
                    replace HL766_0 := zA (Kd.V_drew HL766_0.out)
                    replace HO769 := zA (zH HO769.out)
                    replace HL772_0 := zA (Kd.V_drew HL772_0.out)
                    replace HL773_0 := zA (Kd.V_drew HL773_0.out)
                    replace HO776 := zA (zH HO776.out)
                    replace HL779_0 := zA (Kd.V_drew HL779_0.out)
                    replace HL780_0 := zA (Kd.V_drew HL780_0.out)
                    replace HO783 := zA (zH HO783.out)
                    replace BK751 := zA (zK BK751.out)
                    replace HR761_0 := zA (Kd.C_drew HR761_0.out)
                    replace HR762_0 := zA (Kd.C_drew HR762_0.out)
                    replace HR765_0 := zA (Kd.C_drew HR765_0.out)
                    replace HR766_0 := zA (Kd.C_drew HR766_0.out)
                    replace HR772_0 := zA (Kd.C_drew HR772_0.out)
                    replace HR773_0 := zA (Kd.C_drew HR773_0.out)
                    replace HR779_0 := zA (Kd.C_drew HR779_0.out)
                    replace HR780_0 := zA (Kd.C_drew HR780_0.out)
                    replace HB := zA (zD HB.out)
                    have p786 : 0 ≤ (1 : Int) := (by omega)
                    have q786 : 1 < (t752.length : Int) := zd
                    obtain ⟨ad786, A786_0, c786_0, e786, hx786_0, hl786_0, hi786_0⟩ := at_L1 (Kd.N_reads' HO_8.out).2.2 1 p786 q786
                    obtain rfl : ad761 = ad786 := (by injection e786)
                    obtain ⟨ce786, hce786, hMe786, hcc786⟩ := Kd.N_get HO_8.out [] 1 p786 (by first | exact q786 | exact zd | (have e_ := (Kd.N_reads' HO_8.out).1; omega))
                    obtain ⟨ua786_0, uc786_0, rfl, ul786_0, ge786_0⟩ := Kd.FK_slice_open hMe786
                    have hv786_0 := hcc786 0 _ rfl
                    rw [Nat.add_zero, show ((Kd.slice 2 (Kd.int .i64))).sz = 1 from rfl, Nat.mul_one] at hv786_0
                    replace hv786_0 := Option.some.inj (hv786_0.symm.trans hx786_0)
                    injection hv786_0 with hva_ hvn_ hvc_
                    rw [hva_] at ge786_0
                    rw [hvc_] at ul786_0
                    have HL786_0 := zA (show Kd.V (Kd.int .i64) 2 _ w.heap.size _ _ (rd_L1 t752 1) from Kd.V_mk ul786_0 ge786_0)
                    clear hva_ hvn_ hvc_ ge786_0 ul786_0 hcc786 hce786
                    (try simp only [show (1 : Int).toNat = 1 from rfl, Nat.reduceMul, Nat.reduceEqDiff, Go.Addr.add, ↓reduceIte] at hx786_0)
                    have qi786 : (1 < t752.length) = True := eq_true (by omega)
                    (try rw [show ((1 : Int)).toNat = 1 from rfl] at hx786_0)
                    have HR786_0 := zA hi786_0
                    have HC786_0 := zA hl786_0
                    clear hi786_0 hl786_0
                    replace p786 := eq_true p786
                    replace q786 := eq_true q786
                    have p787 : 0 ≤ (3 : Int) := (by omega)
                    have q787 : 3 < (t752.length : Int) := zd
                    obtain ⟨ad787, A787_0, c787_0, e787, hx787_0, hl787_0, hi787_0⟩ := at_L1 (Kd.N_reads' HO_8.out).2.2 3 p787 q787
                    obtain rfl : ad761 = ad787 := (by injection e787)
                    obtain ⟨ce787, hce787, hMe787, hcc787⟩ := Kd.N_get HO_8.out [] 3 p787 (by first | exact q787 | exact zd | (have e_ := (Kd.N_reads' HO_8.out).1; omega))
                    obtain ⟨ua787_0, uc787_0, rfl, ul787_0, ge787_0⟩ := Kd.FK_slice_open hMe787
                    have hv787_0 := hcc787 0 _ rfl
                    rw [Nat.add_zero, show ((Kd.slice 2 (Kd.int .i64))).sz = 1 from rfl, Nat.mul_one] at hv787_0
                    replace hv787_0 := Option.some.inj (hv787_0.symm.trans hx787_0)
                    injection hv787_0 with hva_ hvn_ hvc_
                    rw [hva_] at ge787_0
                    rw [hvc_] at ul787_0
                    have HL787_0 := zA (show Kd.V (Kd.int .i64) 2 _ w.heap.size _ _ (rd_L1 t752 3) from Kd.V_mk ul787_0 ge787_0)
                    clear hva_ hvn_ hvc_ ge787_0 ul787_0 hcc787 hce787
                    (try simp only [show (3 : Int).toNat = 3 from rfl, Nat.reduceMul, Nat.reduceEqDiff, Go.Addr.add, ↓reduceIte] at hx787_0)
                    have qi787 : (3 < t752.length) = True := eq_true (by omega)
                    (try rw [show ((3 : Int)).toNat = 3 from rfl] at hx787_0)
                    have HR787_0 := zA hi787_0
                    have HC787_0 := zA hl787_0
                    clear hi787_0 hl787_0
                    replace p787 := eq_true p787
                    replace q787 := eq_true q787
                    refine start_ (n := 15) (S := fun w' => w'.cell? ⟨gb751, 0, none⟩ = some (.int .i64 t735) ∧ w'.cell? ⟨gb751, 1, none⟩ = some (.slice Ao11 t736.length co11) ∧ w'.cell? ⟨ad761.block, ad761.off + 1, none⟩ = some (.slice A786_0 (rd_L1 t752 1).length c786_0) ∧ w'.cell? ⟨ad761.block, ad761.off + 3, none⟩ = some (.slice A787_0 (rd_L1 t752 3).length c787_0)) (ds := []) #[false, false, false, false, false, false, false, false, false, false, false, false, false, false, false] (by kernel_rfl) rfl rfl ⟨(kV BK751.out 0).trans rfl, (kV BK751.out 1).trans rfl, hx786_0, hx787_0⟩ (fun hHeld => ?_); refine with_tabW laws_FnLevi.tab16 laws_FnLevi.bits16 (fun HT_ HW_ => ?_)
                    generalize w68.drew = w69 at HO_4 HO_5 HO_6 HO_7 HO_8 HO_752001 HL761_0 HL762_0 HL765_0 HL766_0 HO769 HL772_0 HL773_0 HO776 HL779_0 HL780_0 HO783 BK751 HR761_0 HR762_0 HR765_0 HR766_0 HR772_0 HR773_0 HR779_0 HR780_0 HB HL786_0 HL787_0 HR786_0 HR787_0 hx786_0 hx787_0 hHeld ⊢
                    refine zp 1 (some 118) #[false, true, false, false, false, false, false, false, false, false, false, false, false, false, false] HT_.out ?_
                    refine zp 2 (some 119) #[false, true, true, false, false, false, false, false, false, false, false, false, false, false, false] HT_.out ?_
                    refine zp 4 (some 121) #[false, true, true, false, true, false, false, false, false, false, false, false, false, false, false] HT_.out ?_
                    refine zp 5 (some 122) #[false, true, true, false, true, true, false, false, false, false, false, false, false, false, false] HT_.out ?_
                    refine zp 8 (some 125) #[false, true, true, false, true, true, false, false, true, false, false, false, false, false, false] HT_.out ?_
                    refine zf 0 (some 117) #[true, true, true, false, true, true, false, false, true, false, false, false, false, false, false] HT_.out HW_.out hHeld ?_
                    refine zf 3 (some 120) #[true, true, true, true, true, true, false, false, true, false, false, false, false, false, false] HT_.out HW_.out hHeld ?_
                    refine zf 6 (some 123) #[true, true, true, true, true, true, true, false, true, false, false, false, false, false, false] HT_.out HW_.out hHeld ?_
                    refine one_ (i := 7) (N := some 124) #[true, true, true, true, true, true, true, true, true, false, false, false, false, false, false] rfl rfl (one_of HT_.out (by kernel_rfl)) (by decide) (fun K hK => ?_)
                    refine goes_ Tryd.func52 (by kernel_rfl) rfl #[.slice A786_0 (rd_L1 t752 1).length c786_0, .slice A787_0 (rd_L1 t752 3).length c787_0] (by rfl) rfl rfl zg ?_
                    with_reducible refine (laws_join5.calls _ _ (rd_L1 t752 1) _ _ (rd_L1 t752 3) t788 _ ?side1 ?side2 ?side3 ?side4 A39.out).mono ?_
                    (case side1 => repeat (first | exact (by repeat (first | (with_reducible exact HR786_0.out) | (with_reducible refine Kd.C_alloc ?_ _) | (with_reducible refine Kd.C_drewN ?_ _) | (with_reducible refine Kd.C_drew ?_) | exact HR786_0.out)) | (with_reducible refine Kd.C_alloc ?_ _) | (with_reducible refine Kd.C_drewN ?_ _) | (with_reducible refine Kd.C_drew ?_)))
                    (case side2 => exact HC786_0.out)
                    (case side3 => repeat (first | exact (by repeat (first | (with_reducible exact HR787_0.out) | (with_reducible refine Kd.C_alloc ?_ _) | (with_reducible refine Kd.C_drewN ?_ _) | (with_reducible refine Kd.C_drew ?_) | exact HR787_0.out)) | (with_reducible refine Kd.C_alloc ?_ _) | (with_reducible refine Kd.C_drewN ?_ _) | (with_reducible refine Kd.C_drew ?_)))
                    (case side4 => exact HC787_0.out)
                    rintro e w70 ⟨v789, rfl, ho0, hb⟩
                    have HS2_ := (hb.cell (jG _ _ (hHeld.2.2.1))).trans (hHeld.2.2.1)
                    have HS3_ := (hb.cell (jG _ _ (hHeld.2.2.2))).trans (hHeld.2.2.2)
                    refine ⟨_, rfl, ?_⟩
                    replace HO_4 := zA (kK (zPV HO_4.out) (kC ho0) hb)
                    replace HO_6 := zA (kK (zPV HO_6.out) (kC ho0) hb)
                    replace HO_8 := zA (Kd.N_elder' (zPN HO_8.out) (kC ho0) hb)
                    replace HL761_0 := zA (kK (zPV HL761_0.out) (kC ho0) hb)
                    replace HL762_0 := zA (kK (zPV HL762_0.out) (kC ho0) hb)
                    replace HL765_0 := zA (kK (zPV HL765_0.out) (kC ho0) hb)
                    replace HL766_0 := zA (kK (zPV HL766_0.out) (kC ho0) hb)
                    replace HL772_0 := zA (kK (zPV HL772_0.out) (kC ho0) hb)
                    replace HL773_0 := zA (kK (zPV HL773_0.out) (kC ho0) hb)
                    replace HL779_0 := zA (kK (zPV HL779_0.out) (kC ho0) hb)
                    replace HL780_0 := zA (kK (zPV HL780_0.out) (kC ho0) hb)
                    replace HL786_0 := zA (kK (zPV HL786_0.out) (kC ho0) hb)
                    replace HL787_0 := zA (kK (zPV HL787_0.out) (kC ho0) hb)
                    have HO790 := zA (kI (kF (kF (kF (kF (kF (kF ho0 (kH (zP HO_5.out))) (kH (zP HO_7.out))) (kH (zP HO_752001.out))) (kH (zP HO769.out))) (kH (zP HO776.out))) (kH (zP HO783.out))) (kP (zT HB.out GE751.out)))
                    replace HO_5 := zA (kE (zP HO_5.out) (kC ho0) hb)
                    replace HO_7 := zA (kE (zP HO_7.out) (kC ho0) hb)
                    replace HO_752001 := zA (kE (zP HO_752001.out) (kC ho0) hb)
                    replace HO769 := zA (kE (zP HO769.out) (kC ho0) hb)
                    replace HO776 := zA (kE (zP HO776.out) (kC ho0) hb)
                    replace HO783 := zA (kE (zP HO783.out) (kC ho0) hb)
                    replace BK751 := zA (zB1 BK751.out hb)
                    replace HR761_0 := zA (kO (by repeat (first | (with_reducible exact HR761_0.out) | (with_reducible refine Kd.C_alloc ?_ _) | (with_reducible refine Kd.C_drewN ?_ _) | (with_reducible refine Kd.C_drew ?_) | exact HR761_0.out)) hb)
                    replace HR762_0 := zA (kO (by repeat (first | (with_reducible exact HR762_0.out) | (with_reducible refine Kd.C_alloc ?_ _) | (with_reducible refine Kd.C_drewN ?_ _) | (with_reducible refine Kd.C_drew ?_) | exact HR762_0.out)) hb)
                    replace HR765_0 := zA (kO (by repeat (first | (with_reducible exact HR765_0.out) | (with_reducible refine Kd.C_alloc ?_ _) | (with_reducible refine Kd.C_drewN ?_ _) | (with_reducible refine Kd.C_drew ?_) | exact HR765_0.out)) hb)
                    replace HR766_0 := zA (kO (by repeat (first | (with_reducible exact HR766_0.out) | (with_reducible refine Kd.C_alloc ?_ _) | (with_reducible refine Kd.C_drewN ?_ _) | (with_reducible refine Kd.C_drew ?_) | exact HR766_0.out)) hb)
                    replace HR772_0 := zA (kO (by repeat (first | (with_reducible exact HR772_0.out) | (with_reducible refine Kd.C_alloc ?_ _) | (with_reducible refine Kd.C_drewN ?_ _) | (with_reducible refine Kd.C_drew ?_) | exact HR772_0.out)) hb)
                    replace HR773_0 := zA (kO (by repeat (first | (with_reducible exact HR773_0.out) | (with_reducible refine Kd.C_alloc ?_ _) | (with_reducible refine Kd.C_drewN ?_ _) | (with_reducible refine Kd.C_drew ?_) | exact HR773_0.out)) hb)
                    replace HR779_0 := zA (kO (by repeat (first | (with_reducible exact HR779_0.out) | (with_reducible refine Kd.C_alloc ?_ _) | (with_reducible refine Kd.C_drewN ?_ _) | (with_reducible refine Kd.C_drew ?_) | exact HR779_0.out)) hb)
                    replace HR780_0 := zA (kO (by repeat (first | (with_reducible exact HR780_0.out) | (with_reducible refine Kd.C_alloc ?_ _) | (with_reducible refine Kd.C_drewN ?_ _) | (with_reducible refine Kd.C_drew ?_) | exact HR780_0.out)) hb)
                    replace HR786_0 := zA (kO (by repeat (first | (with_reducible exact HR786_0.out) | (with_reducible refine Kd.C_alloc ?_ _) | (with_reducible refine Kd.C_drewN ?_ _) | (with_reducible refine Kd.C_drew ?_) | exact HR786_0.out)) hb)
                    replace HR787_0 := zA (kO (by repeat (first | (with_reducible exact HR787_0.out) | (with_reducible refine Kd.C_alloc ?_ _) | (with_reducible refine Kd.C_drewN ?_ _) | (with_reducible refine Kd.C_drew ?_) | exact HR787_0.out)) hb)
                    replace HB := zA (kQ (zT HB.out GE751.out) hb)
                    (try clear hb)
                    (try clear hb2)
                    (try clear hk)
                    (try clear hi)
                    (try clear hgw)
                    (try clear ho0)
                    obtain ⟨Ao71, co71, eo71⟩ := kM HO790.out
                    (first | subst eo71 | (injection eo71 with f1_ f2_ f3_; have f4_ := f1_.symm; have f5_ := f3_.symm; clear f1_ f2_ f3_; subst f4_; subst f5_))
                    refine hK.out _ _ ⟨(kV BK751.out 0).trans rfl, (kV BK751.out 1).trans rfl, HS2_, HS3_⟩ (fun hHeld => ?_)
                    clear hK K
                    refine norm_ (a' := ?_) ?_ ?_
                    rotate_left
                    ·show Act.put _ (some 124) _ = _
                     simp only [Act.put, zL, zM, zN, i64_w, i32_w]
                     rfl
                    refine one_ (i := 9) (N := some 126) #[true, true, true, true, true, true, true, true, true, true, false, false, false, false, false] rfl rfl (one_of HT_.out (by kernel_rfl)) (by decide) (fun K hK => ?_)
                    refine goes_ Tryd.func51 (by kernel_rfl) rfl #[.agg #[.int .i64 t735, .slice Ao11 t736.length co11], .slice Ao71 t788.length co71, .slice Ao17 t748.length co17] (by rfl) rfl rfl zg ?_
                    with_reducible refine (impl_AreSameTrace.calls kj6 t735 (fun k_ => some k_ = (.slice Ao11 t736.length co11 : Value).ownBlock) _ _ t736 (fun k_ => some k_ = (.slice Ao71 t788.length co71 : Value).ownBlock) _ _ t788 (fun k_ => some k_ = (.slice Ao17 t748.length co17 : Value).ownBlock) _ _ t748 true t792 _ ?side1 ?side2 ?side3 ?side4 A40.out).mono ?_
                    (case side1 => exact jL (jK rfl (kD (Kd.R_apart' (HO_752001.out) (Kd.N_typed HO_8.out) (by decide)) BK751.out (by decide))))
                    (case side2 => exact jL (jK rfl (kD (Kd.R_apart' (HO790.out) (Kd.N_typed HO_8.out) (by decide)) BK751.out (by decide))))
                    (case side3 => exact jL (jK rfl (kD (Kd.R_apart' (HO_7.out) (Kd.N_typed HO_8.out) (by decide)) BK751.out (by decide))))
                    (case side4 => exact TabW.below HT.out (zT HB.out GE751.out))
                    rintro e w72 ⟨rfl, hb⟩
                    have HS2_ := (hb.cell (jG _ _ (hHeld.2.2.1))).trans (hHeld.2.2.1)
                    have HS3_ := (hb.cell (jG _ _ (hHeld.2.2.2))).trans (hHeld.2.2.2)
                    refine ⟨_, rfl, ?_⟩
                    replace HO_4 := zA (kG (zPV HO_4.out) hb)
                    replace HO_5 := zA (kL (zP HO_5.out) hb)
                    replace HO_6 := zA (kG (zPV HO_6.out) hb)
                    replace HO_7 := zA (kL (zP HO_7.out) hb)
                    replace HO_8 := zA (kZ (zPN HO_8.out) hb)
                    replace HO_752001 := zA (kL (zP HO_752001.out) hb)
                    replace HL761_0 := zA (kG (zPV HL761_0.out) hb)
                    replace HL762_0 := zA (kG (zPV HL762_0.out) hb)
                    replace HL765_0 := zA (kG (zPV HL765_0.out) hb)
                    replace HL766_0 := zA (kG (zPV HL766_0.out) hb)
                    replace HO769 := zA (kL (zP HO769.out) hb)
                    replace HL772_0 := zA (kG (zPV HL772_0.out) hb)
                    replace HL773_0 := zA (kG (zPV HL773_0.out) hb)
                    replace HO776 := zA (kL (zP HO776.out) hb)
                    replace HL779_0 := zA (kG (zPV HL779_0.out) hb)
                    replace HL780_0 := zA (kG (zPV HL780_0.out) hb)
                    replace HO783 := zA (kL (zP HO783.out) hb)
                    replace HL786_0 := zA (kG (zPV HL786_0.out) hb)
                    replace HL787_0 := zA (kG (zPV HL787_0.out) hb)
                    replace HO790 := zA (kL (zP HO790.out) hb)
                    replace BK751 := zA (zB1 BK751.out hb)
                    replace HR761_0 := zA (kO (by repeat (first | (with_reducible exact HR761_0.out) | (with_reducible refine Kd.C_alloc ?_ _) | (with_reducible refine Kd.C_drewN ?_ _) | (with_reducible refine Kd.C_drew ?_) | exact HR761_0.out)) hb)
                    replace HR762_0 := zA (kO (by repeat (first | (with_reducible exact HR762_0.out) | (with_reducible refine Kd.C_alloc ?_ _) | (with_reducible refine Kd.C_drewN ?_ _) | (with_reducible refine Kd.C_drew ?_) | exact HR762_0.out)) hb)
                    replace HR765_0 := zA (kO (by repeat (first | (with_reducible exact HR765_0.out) | (with_reducible refine Kd.C_alloc ?_ _) | (with_reducible refine Kd.C_drewN ?_ _) | (with_reducible refine Kd.C_drew ?_) | exact HR765_0.out)) hb)
                    replace HR766_0 := zA (kO (by repeat (first | (with_reducible exact HR766_0.out) | (with_reducible refine Kd.C_alloc ?_ _) | (with_reducible refine Kd.C_drewN ?_ _) | (with_reducible refine Kd.C_drew ?_) | exact HR766_0.out)) hb)
                    replace HR772_0 := zA (kO (by repeat (first | (with_reducible exact HR772_0.out) | (with_reducible refine Kd.C_alloc ?_ _) | (with_reducible refine Kd.C_drewN ?_ _) | (with_reducible refine Kd.C_drew ?_) | exact HR772_0.out)) hb)
                    replace HR773_0 := zA (kO (by repeat (first | (with_reducible exact HR773_0.out) | (with_reducible refine Kd.C_alloc ?_ _) | (with_reducible refine Kd.C_drewN ?_ _) | (with_reducible refine Kd.C_drew ?_) | exact HR773_0.out)) hb)
                    replace HR779_0 := zA (kO (by repeat (first | (with_reducible exact HR779_0.out) | (with_reducible refine Kd.C_alloc ?_ _) | (with_reducible refine Kd.C_drewN ?_ _) | (with_reducible refine Kd.C_drew ?_) | exact HR779_0.out)) hb)
                    replace HR780_0 := zA (kO (by repeat (first | (with_reducible exact HR780_0.out) | (with_reducible refine Kd.C_alloc ?_ _) | (with_reducible refine Kd.C_drewN ?_ _) | (with_reducible refine Kd.C_drew ?_) | exact HR780_0.out)) hb)
                    replace HR786_0 := zA (kO (by repeat (first | (with_reducible exact HR786_0.out) | (with_reducible refine Kd.C_alloc ?_ _) | (with_reducible refine Kd.C_drewN ?_ _) | (with_reducible refine Kd.C_drew ?_) | exact HR786_0.out)) hb)
                    replace HR787_0 := zA (kO (by repeat (first | (with_reducible exact HR787_0.out) | (with_reducible refine Kd.C_alloc ?_ _) | (with_reducible refine Kd.C_drewN ?_ _) | (with_reducible refine Kd.C_drew ?_) | exact HR787_0.out)) hb)
                    replace HB := zA (kQ (zT HB.out GE751.out) hb)
                    (try clear hb)
                    (try clear hb2)
                    (try clear hk)
                    (try clear hi)
                    (try clear hgw)
                    refine hK.out _ _ ⟨(kV BK751.out 0).trans rfl, (kV BK751.out 1).trans rfl, HS2_, HS3_⟩ (fun hHeld => ?_)
                    clear hK K
                    refine norm_ (a' := ?_) ?_ ?_
                    rotate_left
                    ·show Act.put _ (some 126) _ = _
                     simp only [Act.put, zL, zM, zN, i64_w, i32_w]
                     rfl
                    refine zp 10 (some 116) #[true, true, true, true, true, true, true, true, true, true, true, false, false, false, false] HT_.out ?_
                    refine zp 11 (some 127) #[true, true, true, true, true, true, true, true, true, true, true, true, false, false, false] HT_.out ?_
                    refine zp 12 (some 128) #[true, true, true, true, true, true, true, true, true, true, true, true, true, false, false] HT_.out ?_
                    refine zp 13 (some 20) #[true, true, true, true, true, true, true, true, true, true, true, true, true, true, false] HT_.out ?_
                    refine zp 14 (some 21) #[true, true, true, true, true, true, true, true, true, true, true, true, true, true, true] HT_.out ?_
                    refine done_ (done_of HT_.out (by kernel_rfl)) ?_
                    obtain ⟨hcz73_0, hcz73_1, hfz73_0, hfz73_1⟩ := zB3 BK751.out
                    try go_wp2_with (first | (refine zO (some 133) Tryd.func53 #[.agg #[.int .i64 t735, .slice Ao11 t736.length co11], .slice Ao14 t739.length co14, .slice Ao16 t745.length co16] ?_; (with_reducible refine (impl_MeetOf.calls kj6 t735 (fun k_ => some k_ = (.slice Ao11 t736.length co11 : Value).ownBlock) _ _ t736 (fun k_ => (((((some k_ ≠ (.slice Ao15 t742.length co15 : Value).ownBlock ∧ (some k_ ≠ (.slice Ao17 t748.length co17 : Value).ownBlock ∧ (some k_ ≠ (.slice (some ad761) t752.length co54 : Value).ownBlock ∧ (some k_ ≠ (.slice Ao11 t736.length co11 : Value).ownBlock ∧ k_ ≠ gb751)))) ∧ some k_ ≠ (.slice Ao59 t767.length co59 : Value).ownBlock) ∧ some k_ ≠ (.slice Ao63 t774.length co63 : Value).ownBlock) ∧ some k_ ≠ (.slice Ao67 t781.length co67 : Value).ownBlock) ∧ some k_ ≠ (.slice Ao71 t788.length co71 : Value).ownBlock)) _ _ t739 (fun k_ => (((((some k_ ≠ (.slice Ao15 t742.length co15 : Value).ownBlock ∧ (some k_ ≠ (.slice Ao17 t748.length co17 : Value).ownBlock ∧ (some k_ ≠ (.slice (some ad761) t752.length co54 : Value).ownBlock ∧ (some k_ ≠ (.slice Ao11 t736.length co11 : Value).ownBlock ∧ k_ ≠ gb751)))) ∧ some k_ ≠ (.slice Ao59 t767.length co59 : Value).ownBlock) ∧ some k_ ≠ (.slice Ao63 t774.length co63 : Value).ownBlock) ∧ some k_ ≠ (.slice Ao67 t781.length co67 : Value).ownBlock) ∧ some k_ ≠ (.slice Ao71 t788.length co71 : Value).ownBlock)) _ _ t745 t793 t796 _ ?side1 ?side2 ?side3 ?side4 A41.out).mono ?_); (case side1 => exact jL (jK rfl (kD (Kd.R_apart' (HO_752001.out) (Kd.N_typed HO_8.out) (by decide)) BK751.out (by decide)))); (case side2 => exact HO_4.out); (case side3 => exact HO_6.out); (case side4 => exact TabW.below HT.out (zT HB.out GE751.out)); rintro e w74 ⟨v794, rfl, ho0, hb⟩; refine ⟨_, rfl, ?_⟩; replace HO_4 := zA (kK (zPV HO_4.out) (kC ho0) hb); replace HO_6 := zA (kK (zPV HO_6.out) (kC ho0) hb); replace HO_8 := zA (Kd.N_elder' (zPN HO_8.out) (kC ho0) hb); replace HL761_0 := zA (kK (zPV HL761_0.out) (kC ho0) hb); replace HL762_0 := zA (kK (zPV HL762_0.out) (kC ho0) hb); replace HL765_0 := zA (kK (zPV HL765_0.out) (kC ho0) hb); replace HL766_0 := zA (kK (zPV HL766_0.out) (kC ho0) hb); replace HL772_0 := zA (kK (zPV HL772_0.out) (kC ho0) hb); replace HL773_0 := zA (kK (zPV HL773_0.out) (kC ho0) hb); replace HL779_0 := zA (kK (zPV HL779_0.out) (kC ho0) hb); replace HL780_0 := zA (kK (zPV HL780_0.out) (kC ho0) hb); replace HL786_0 := zA (kK (zPV HL786_0.out) (kC ho0) hb); replace HL787_0 := zA (kK (zPV HL787_0.out) (kC ho0) hb); have HO795 := zA (kI (kF (kF (kF (kF (kF (kF (kF (kA (ok' := fun k_ => True) ho0 (fun _ hk_ => trivial)) (kH (zP HO_5.out))) (kH (zP HO_7.out))) (kH (zP HO_752001.out))) (kH (zP HO769.out))) (kH (zP HO776.out))) (kH (zP HO783.out))) (kH (zP HO790.out))) (kP (zT HB.out GE751.out))); replace HO_5 := zA (kE (zP HO_5.out) (kC ho0) hb); replace HO_7 := zA (kE (zP HO_7.out) (kC ho0) hb); replace HO_752001 := zA (kE (zP HO_752001.out) (kC ho0) hb); replace HO769 := zA (kE (zP HO769.out) (kC ho0) hb); replace HO776 := zA (kE (zP HO776.out) (kC ho0) hb); replace HO783 := zA (kE (zP HO783.out) (kC ho0) hb); replace HO790 := zA (kE (zP HO790.out) (kC ho0) hb); replace BK751 := zA (zB1 BK751.out hb); replace HR761_0 := zA (kO (by repeat (first | (with_reducible exact HR761_0.out) | (with_reducible refine Kd.C_alloc ?_ _) | (with_reducible refine Kd.C_drewN ?_ _) | (with_reducible refine Kd.C_drew ?_) | exact HR761_0.out)) hb); replace HR762_0 := zA (kO (by repeat (first | (with_reducible exact HR762_0.out) | (with_reducible refine Kd.C_alloc ?_ _) | (with_reducible refine Kd.C_drewN ?_ _) | (with_reducible refine Kd.C_drew ?_) | exact HR762_0.out)) hb); replace HR765_0 := zA (kO (by repeat (first | (with_reducible exact HR765_0.out) | (with_reducible refine Kd.C_alloc ?_ _) | (with_reducible refine Kd.C_drewN ?_ _) | (with_reducible refine Kd.C_drew ?_) | exact HR765_0.out)) hb); replace HR766_0 := zA (kO (by repeat (first | (with_reducible exact HR766_0.out) | (with_reducible refine Kd.C_alloc ?_ _) | (with_reducible refine Kd.C_drewN ?_ _) | (with_reducible refine Kd.C_drew ?_) | exact HR766_0.out)) hb); replace HR772_0 := zA (kO (by repeat (first | (with_reducible exact HR772_0.out) | (with_reducible refine Kd.C_alloc ?_ _) | (with_reducible refine Kd.C_drewN ?_ _) | (with_reducible refine Kd.C_drew ?_) | exact HR772_0.out)) hb); replace HR773_0 := zA (kO (by repeat (first | (with_reducible exact HR773_0.out) | (with_reducible refine Kd.C_alloc ?_ _) | (with_reducible refine Kd.C_drewN ?_ _) | (with_reducible refine Kd.C_drew ?_) | exact HR773_0.out)) hb); replace HR779_0 := zA (kO (by repeat (first | (with_reducible exact HR779_0.out) | (with_reducible refine Kd.C_alloc ?_ _) | (with_reducible refine Kd.C_drewN ?_ _) | (with_reducible refine Kd.C_drew ?_) | exact HR779_0.out)) hb); replace HR780_0 := zA (kO (by repeat (first | (with_reducible exact HR780_0.out) | (with_reducible refine Kd.C_alloc ?_ _) | (with_reducible refine Kd.C_drewN ?_ _) | (with_reducible refine Kd.C_drew ?_) | exact HR780_0.out)) hb); replace HR786_0 := zA (kO (by repeat (first | (with_reducible exact HR786_0.out) | (with_reducible refine Kd.C_alloc ?_ _) | (with_reducible refine Kd.C_drewN ?_ _) | (with_reducible refine Kd.C_drew ?_) | exact HR786_0.out)) hb); replace HR787_0 := zA (kO (by repeat (first | (with_reducible exact HR787_0.out) | (with_reducible refine Kd.C_alloc ?_ _) | (with_reducible refine Kd.C_drewN ?_ _) | (with_reducible refine Kd.C_drew ?_) | exact HR787_0.out)) hb); replace HB := zA (kQ (zT HB.out GE751.out) hb); (try clear hb); (try clear ho0); have p797 : 0 ≤ (0 : Int) := (by omega); have q797 : 0 < (t752.length : Int) := zd; obtain ⟨ad797, A797_0, c797_0, e797, hx797_0, hl797_0, hi797_0⟩ := at_L1 (Kd.N_reads' HO_8.out).2.2 0 p797 q797; obtain rfl : ad761 = ad797 := (by injection e797); obtain ⟨ce797, hce797, hMe797, hcc797⟩ := Kd.N_get HO_8.out [] 0 p797 (by first | exact q797 | exact zd | (have e_ := (Kd.N_reads' HO_8.out).1; omega)); obtain ⟨ua797_0, uc797_0, rfl, ul797_0, ge797_0⟩ := Kd.FK_slice_open hMe797; have hv797_0 := hcc797 0 _ rfl; rw [Nat.add_zero, show ((Kd.slice 2 (Kd.int .i64))).sz = 1 from rfl, Nat.mul_one] at hv797_0; replace hv797_0 := Option.some.inj (hv797_0.symm.trans hx797_0); injection hv797_0 with hva_ hvn_ hvc_; rw [hva_] at ge797_0; rw [hvc_] at ul797_0; have HL797_0 := zA (show Kd.V (Kd.int .i64) 2 _ w.heap.size _ _ (rd_L1 t752 0) from Kd.V_mk ul797_0 ge797_0); clear hva_ hvn_ hvc_ ge797_0 ul797_0; clear hcc797 hce797; have qi797 : (0 < t752.length) = True := eq_true (by omega); (try rw [show ((0 : Int)).toNat = 0 from rfl] at hx797_0); (try rw [Addr.add_zero'] at hx797_0); have HR797_0 := zA hi797_0; have HC797_0 := zA hl797_0; clear hi797_0 hl797_0; replace p797 := eq_true p797; replace q797 := eq_true q797; obtain ⟨Ao75, co75, eo75⟩ := kM HO795.out; subst eo75) | (go_at_call 54; (with_reducible refine (laws_likeInts.calls kj6 _ _ t793 _ _ (rd_L1 t752 0) t798 _ ?side1 ?side2 ?side3 ?side4 A53.out).mono ?_); (case side1 => exact zS (kB HO795.out).2.2); (case side2 => exact (kB HO795.out).2.1); (case side3 => repeat (first | exact (by repeat (first | (with_reducible exact HR797_0.out) | (with_reducible refine Kd.C_alloc ?_ _) | (with_reducible refine Kd.C_drewN ?_ _) | (with_reducible refine Kd.C_drew ?_) | exact HR797_0.out)) | (with_reducible refine Kd.C_alloc ?_ _) | (with_reducible refine Kd.C_drewN ?_ _) | (with_reducible refine Kd.C_drew ?_))); (case side4 => exact HC797_0.out); rintro e w' ⟨rfl, ⟨nd, rfl⟩⟩))
                    go_ret
                    exact ⟨zr, zT HB.out GE751.out⟩
                   replace c52 := Bool.eq_false_iff.mpr c52
                   subst c52
                   rw [if_neg (show ¬ (false = true) by decide)] at H
                   exact absurd H (by simp)
                  replace c51 := Bool.eq_false_iff.mpr c51
                  subst c51
                  rw [if_neg (show ¬ (false = true) by decide)] at H
                  exact absurd H (by simp)
                 replace c50 := Bool.eq_false_iff.mpr c50
                 subst c50
                 rw [if_neg (show ¬ (false = true) by decide)] at H
                 exact absurd H (by simp)
                replace c49 := Bool.eq_false_iff.mpr c49
                subst c49
                rw [if_neg (show ¬ (false = true) by decide)] at H
                exact absurd H (by simp)
               replace c48 := Bool.eq_false_iff.mpr c48
               subst c48
               rw [if_neg (show ¬ (false = true) by decide)] at H
               exact absurd H (by simp)
              rw [if_neg c47] at H
              exact absurd H (by simp)
             rw [if_neg c46] at H
             exact absurd H (by simp)
            rw [if_neg c45] at H
            exact absurd H (by simp)
           rw [if_neg c44] at H
           exact absurd H (by simp)
          rw [if_neg c43] at H
          exact absurd H (by simp)
         rw [if_neg c42] at H
         exact absurd H (by simp)
        rw [if_neg c34] at H
        exact absurd H (by simp)
       rw [if_neg c31] at H
       exact absurd H (by simp)
      rw [if_neg c29] at H
      exact absurd H (by simp)
     rw [if_neg c28] at H
     exact absurd H (by simp)
    rw [if_neg c27] at H
    exact absurd H (by simp)
   rw [if_neg c26] at H
   obtain ⟨c26b0, c26b1⟩ := zT2 c26
   obtain rfl := Option.some.inj H
   go_wp2
   go_ret
   exact ⟨zr, zT HB.out GE751.out⟩


end Go.Proofs.YthgapkbkhoeleaaDoor.PAll
