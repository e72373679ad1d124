-- Printed by a program of the session (wip/tools/pgen.py) out of the translation. Not trusted: Lean checks it.
import Derived.Test.YtkiacoilecdepaaDoorPAllx0
import Derived.Test.YtkiacoilecdepaaDoorPAllx1
import Derived.Test.YtkiacoilecdepaaDoorPAllx10
import Derived.Test.YtkiacoilecdepaaDoorPAllx18
import Derived.Test.YtkiacoilecdepaaDoorPAllx19
namespace Go.Proofs.YtkiacoilecdepaaDoor.PAll
open Go.RowKit Go.Proofs.YtkiacoilecdepaaDoor.T Go.Proofs.YtkiacoilecdepaaDoorW.PrintWords Go.Proofs.YtkiacoilecdepaaDoorW.PrintLast Go.Proofs.YtkiacoilecdepaaDoorW.PrintMore
attribute [local go_sem] max2_int min2_int max_two min_two max_three min_three max_four min_four   -- for this text's walks alone
set_option linter.unusedVariables false
set_option linter.unusedSimpArgs false

/-! ### laws_FnPrefixTraces: function 6 -/
mutual
def laws_FnPrefixTraces.j0 : Nat → List Int → Int → List Int → Int → Bool → Int → List Int → Option (Bool)
 | 0, _, _, _, _, _, _, _ => none
 | k + 1, x4, x5, x6, x7, x49, x664000, x664001 => if x49 = true then (none) else (if x7 = 0 then ((impl_IsPrefix.f k x664000 x664001 x6 x4).bind fun bt673 => (if bt673.2 = 0 then (if bt673.1 = true then ((laws_bits5.f k x5).bind fun t675 => (laws_FnPrefixTraces.j1 k x4 x5 ((x6.length : Int) != t675) x664000 x664001)) else (laws_FnPrefixTraces.j1 k x4 x5 true x664000 x664001)) else (laws_FnPrefixTraces.j1 k x4 x5 true x664000 x664001))) else (some true))
def laws_FnPrefixTraces.j1 : Nat → List Int → Int → Bool → Int → List Int → Option (Bool)
 | 0, _, _, _, _, _ => none
 | k + 1, x4, x5, x71, x664000, x664001 => if x71 = true then (none) else ((impl_OrderOf.f k x664000 x664001 x4).bind fun bt676 => (if bt676.2 = 0 then (laws_FnPrefixTraces.j2 k x4 x5 bt676.1 ((bt676.1.length : Int) != (x4.length : Int)) x664000 x664001) else (laws_FnPrefixTraces.j2 k x4 x5 bt676.1 true x664000 x664001)))
def laws_FnPrefixTraces.j2 : Nat → List Int → Int → List Int → Bool → Int → List Int → Option (Bool)
 | 0, _, _, _, _, _, _ => none
 | k + 1, x4, x5, x12, x86, x664000, x664001 => if x86 = true then (none) else (laws_FnPrefixTraces.l0 k x4 x5 x12 0 x664000 x664001)
def laws_FnPrefixTraces.l0 : Nat → List Int → Int → List Int → Int → Int → List Int → Option (Bool)
 | 0, _, _, _, _, _, _ => none
 | k + 1, x4, x5, x12, x14, x664000, x664001 => if x14 < (x4.length : Int) then ((impl_PastOf.f k x664000 x664001 x4 x14).bind fun bt680 => ((impl_ConcurrentWith.f k x664000 x664001 x4 x14).bind fun bt682 => (if bt680.2 = 0 then (laws_FnPrefixTraces.j4 k x4 x5 x12 x14 bt680.1 bt682.1 (bt682.2 != 0) x664000 x664001) else (laws_FnPrefixTraces.j4 k x4 x5 x12 x14 bt680.1 bt682.1 true x664000 x664001)))) else (some true)
def laws_FnPrefixTraces.j4 : Nat → List Int → Int → List Int → Int → Int → Int → Bool → Int → List Int → Option (Bool)
 | 0, _, _, _, _, _, _, _, _, _ => none
 | k + 1, x4, x5, x12, x14, x15, x17, x112, x664000, x664001 => if x112 = true then (none) else (if 0 ≤ x14 then (if x14 < (x12.length : Int) then (if 0 ≤ (IntKind.u64.wrap (x14)) then (if (Go.bits .and .i64 x15 (rd x12 x14)) = (shl .i64 1 (IntKind.u64.wrap (x14))) then (if 0 ≤ (IntKind.u64.wrap ((x4.length : Int))) then (if (Go.bits .or .i64 (Go.bits .or .i64 x15 (rd x12 x14)) x17) = (wrap64 ((shl .i64 1 (IntKind.u64.wrap ((x4.length : Int)))) - 1)) then (laws_FnPrefixTraces.j5 k x4 x5 x12 x14 x15 ((Go.bits .and .i64 (Go.bits .or .i64 x15 (rd x12 x14)) x17) != 0) x664000 x664001) else (laws_FnPrefixTraces.j5 k x4 x5 x12 x14 x15 true x664000 x664001)) else (none)) else (laws_FnPrefixTraces.j5 k x4 x5 x12 x14 x15 true x664000 x664001)) else (none)) else (none)) else (none))
def laws_FnPrefixTraces.j5 : Nat → List Int → Int → List Int → Int → Int → Bool → Int → List Int → Option (Bool)
 | 0, _, _, _, _, _, _, _, _ => none
 | k + 1, x4, x5, x12, x14, x15, x149, x664000, x664001 => if x149 = true then (none) else (if 0 ≤ (IntKind.u64.wrap (x14)) then (if (Go.bits .and .i64 (shr .i64 x5 (IntKind.u64.wrap (x14))) 1) = 1 then (if (Go.bits .or .i64 x15 x5) = x5 then (laws_FnPrefixTraces.l0 k x4 x5 x12 (wrap64 (x14 + 1)) x664000 x664001) else (none)) else (laws_FnPrefixTraces.l0 k x4 x5 x12 (wrap64 (x14 + 1)) x664000 x664001)) else (none))
end
def laws_FnPrefixTraces.f (k : Nat) (l0 : List Int) : Option (Bool) := (laws_big.f l0).bind fun t654 => (if t654 = true then (some true) else ((spec_DrawPrefixAt.f k l0).bind fun bt655 => ((impl_PrefixAt.f k bt655.1 bt655.2.1 bt655.2.2.1 bt655.2.2.2).bind fun bt664 => ((spec_PrefixAt.f k bt655.1 bt655.2.1 bt655.2.2.1 bt655.2.2.2).bind fun bt668 => (if bt664.2 = bt668.2 then ((laws_likeInts.f k bt664.1 bt668.1).bind fun t672 => (laws_FnPrefixTraces.j0 k bt655.2.2.1 bt655.2.2.2 bt664.1 bt664.2 (!t672) bt655.1 bt655.2.1)) else (laws_FnPrefixTraces.j0 k bt655.2.2.1 bt655.2.2.2 bt664.1 bt664.2 true bt655.1 bt655.2.1))))))

set_option maxHeartbeats 8000000 in
set_option maxRecDepth 100000 in
theorem laws_FnPrefixTraces.calls (k : Nat) (A0 : Option Addr) (c0 : Nat) (l0 : List Int) (r : Bool) (w : World) (hr0 : Kd.C (Kd.int .u8) w A0 l0.length l0) (hc0 : l0.length ≤ c0) (hT : TabW w) (h : laws_FnPrefixTraces.f k l0 = some r) :
  Calls Tryd.prog 6 #[.slice A0 l0.length c0] w fun e w' => e = .returned (.bool r) ∧ Below w.heap.size w w' := by
 have hu26 := Tryd.underlying26
 have HT := zA hT
 clear hT
 have HR0 := zA hr0
 have HC0 := zA hc0
 clear hr0 hc0
 have HB := zA (Below.refl w.heap.size w)
 have H : ((laws_big.f l0).bind fun t654 => (if t654 = true then (some true) else ((spec_DrawPrefixAt.f k l0).bind fun bt655 => ((impl_PrefixAt.f k bt655.1 bt655.2.1 bt655.2.2.1 bt655.2.2.2).bind fun bt664 => ((spec_PrefixAt.f k bt655.1 bt655.2.1 bt655.2.2.1 bt655.2.2.2).bind fun bt668 => (if bt664.2 = bt668.2 then ((laws_likeInts.f k bt664.1 bt668.1).bind fun t672 => (laws_FnPrefixTraces.j0 k bt655.2.2.1 bt655.2.2.2 bt664.1 bt664.2 (!t672) bt655.1 bt655.2.1)) else (laws_FnPrefixTraces.j0 k bt655.2.2.1 bt655.2.2.2 bt664.1 bt664.2 true bt655.1 bt655.2.1))))))) = some r := h
 clear h
 obtain ⟨t654, A2, H⟩ := zb H
 try dsimp only at H
 by_cases c3 : t654 = true
 ·subst c3
  have H1 : (some true) = some r := by rw [if_pos rfl] at H; exact H
  clear H
  have H := H1
  clear H1
  obtain rfl := Option.some.inj H
  go_enter Tryd.func6, Tryd.ntmps6
  go_wp2_with (first | ((with_reducible refine gate_callee (f := 9) rfl ?_); refine zO (some 20) Tryd.func9 #[.slice A0 l0.length c0] ?_; (with_reducible refine (laws_big.calls _ _ l0 true _ ?side1 ?side2 A2.out).mono ?_); (case side1 => exact zS HR0.out); (case side2 => exact HC0.out); rintro e w' ⟨rfl, ⟨nd, rfl⟩⟩; refine ⟨_, rfl, ?_⟩))
  go_ret
  exact ⟨zr, zQ HB.out⟩
 replace c3 := Bool.eq_false_iff.mpr c3
 subst c3
 have H1 : ((spec_DrawPrefixAt.f k l0).bind fun bt655 => ((impl_PrefixAt.f k bt655.1 bt655.2.1 bt655.2.2.1 bt655.2.2.2).bind fun bt664 => ((spec_PrefixAt.f k bt655.1 bt655.2.1 bt655.2.2.1 bt655.2.2.2).bind fun bt668 => (if bt664.2 = bt668.2 then ((laws_likeInts.f k bt664.1 bt668.1).bind fun t672 => (laws_FnPrefixTraces.j0 k bt655.2.2.1 bt655.2.2.2 bt664.1 bt664.2 (!t672) bt655.1 bt655.2.1)) else (laws_FnPrefixTraces.j0 k bt655.2.2.1 bt655.2.2.2 bt664.1 bt664.2 true bt655.1 bt655.2.1))))) = some r := by rw [if_neg (show ¬ (false = true) by decide)] at H; exact H
 clear H
 have H := H1
 clear H1
 obtain ⟨⟨t655, t656, t659, t662⟩, A4, H⟩ := zb H
 try dsimp only at H
 obtain ⟨⟨t664, t667⟩, A5, H⟩ := zb H
 try dsimp only at H
 obtain ⟨⟨t668, t671⟩, A6, H⟩ := zb H
 try dsimp only at H
 have HC7 := zA H
 clear H
 go_enter Tryd.func6, Tryd.ntmps6
 go_upto_region 6 with (first | ((with_reducible refine gate_callee (f := 9) rfl ?_); refine zO (some 20) Tryd.func9 #[.slice A0 l0.length c0] ?_; (with_reducible refine (laws_big.calls _ _ l0 false _ ?side1 ?side2 A2.out).mono ?_); (case side1 => exact zS HR0.out); (case side2 => exact HC0.out); rintro e w' ⟨rfl, ⟨nd, rfl⟩⟩; refine ⟨_, rfl, ?_⟩) | ((with_reducible refine gate_callee (f := 30) rfl ?_); refine zO (some 23) Tryd.func30 #[.slice A0 l0.length c0] ?_; (with_reducible refine (spec_DrawPrefixAt.calls k _ _ l0 t655 t656 t659 t662 _ ?side1 ?side2 A4.out).mono ?_); (case side1 => exact zS HR0.out); (case side2 => exact HC0.out); rintro e w8 ⟨v657, v660, rfl, ho0, ho1, hb⟩; refine ⟨_, rfl, ?_⟩; have n0_ := zA (Kd.R_lower ho0 (below_size (zQ HB.out))); have n1_ := zA (Kd.R_lower ho1 (below_size (zQ HB.out))); have n2_ := zA (below_step (zQ HB.out) hb); clear HB; have HO658 := n0_; have HO661 := n1_; have HB := n2_; clear n0_ n1_ n2_; (try clear hb); (try clear ho0); (try clear ho1)) | ((with_reducible refine gate_dst (N := 3) rfl ?_); refine box_event ?hg (N := 3) ?hd (cs := #[.int .i64 0, .slice none 0 0]) (t := 26) ?hr ?_; (case hd => rfl); (case hg => rfl); (case hr => first | (go_simp; done) | (go_simp; rfl)); intro gb663 hg w9 hbox hb; have n0_ := zA (Kd.R_below (zP HO658.out) hb); have n1_ := zA (Kd.R_below (zP HO661.out) hb); have n2_ := zA (below_step (zQ HB.out) hb); have n3_ := zA (hbox); have n4_ := zA ((by rw [hg]; exact (below_size (zQ HB.out)) : w.heap.size ≤ gb663)); have n5_ := zA ((by rw [hg]; exact (below_size (zQ HB.out)) : w.heap.size ≤ gb663)); clear HO658; clear HO661; clear HB; have HO658 := n0_; have HO661 := n1_; have HB := n2_; have BK663 := n3_; have GW663 := n4_; have GE663 := n5_; clear n0_ n1_ n2_ n3_ n4_ n5_; clear hb hbox hg; have hcz10_0 : w9.cell? ⟨gb663, 0, none⟩ = some (.int .i64 0) := (blk_cell BK663.out 0).trans rfl; have hcz10_1 : w9.cell? ⟨gb663, 1, none⟩ = some (.slice none 0 0) := (blk_cell BK663.out 1).trans rfl; have hfz10_0 := blk_frozen BK663.out 0; have hfz10_1 := blk_frozen BK663.out 1; obtain ⟨Ao11, co11, eo11⟩ := Kd.R_slice HO658.out; subst eo11) | ((with_reducible refine gate_store (t := 26) (p := 3) rfl ?_); refine store_event (t := 26) (p := 3) (v := ?vo_w12) (w1 := ((w9.setCell ⟨gb663, 0, none⟩ (.int .i64 t655)).setCell ⟨gb663, 1, none⟩ (.slice Ao11 t656.length co11))) ?hg ?ho ?hn ?hr ?_; (case ho => rfl); (case hg => rfl); (case hn => rfl); (case hr => first | (go_simp; done) | (go_simp; rfl)); intro w12 hw; have n0_ : Aside0 (Kd.R (Kd.int .i64) 2 w12 w.heap.size (fun k_ => some k_ ≠ (v660 : Value).ownBlock) (.slice Ao11 t656.length co11) t656) := ⟨(by rw [hw]; exact (by (with_reducible repeat (first | apply zF | apply zG | apply zH)); exact Kd.R_mono (Kd.R_far (p := ⟨gb663, 1, none⟩) (Kd.R_far (p := ⟨gb663, 0, none⟩) (Kd.R_types HO658.out BK663.out (by decide)) (fun _ hk => hk.2) (.int .i64 t655)) (fun _ hk => hk.2) (.slice Ao11 t656.length co11)) (fun _ hk => hk.1)))⟩; have n1_ : Aside0 (Kd.R (Kd.int .i64) 2 w12 w.heap.size (fun k_ => some k_ ≠ (.slice Ao11 t656.length co11 : Value).ownBlock) v660 t659) := ⟨(by rw [hw]; exact (by (with_reducible repeat (first | apply zF | apply zG | apply zH)); exact Kd.R_mono (Kd.R_far (p := ⟨gb663, 1, none⟩) (Kd.R_far (p := ⟨gb663, 0, none⟩) (Kd.R_types HO661.out BK663.out (by decide)) (fun _ hk => hk.2) (.int .i64 t655)) (fun _ hk => hk.2) (.slice Ao11 t656.length co11)) (fun _ hk => hk.1)))⟩; have n2_ : Aside0 (w12.heap[gb663]? = some (.cells #[.int .i64 t655, .slice Ao11 t656.length co11] 26 (0, 0))) := ⟨(by rw [hw]; exact (by (with_reducible repeat (first | refine zJ ?_ _ | refine zK ?_ | refine zI ?_ _)); refine blk_put (cs := #[.int .i64 t655, .slice none 0 0]) ?_ 1 _ rfl; (with_reducible repeat (first | refine zJ ?_ _ | refine zK ?_ | refine zI ?_ _)); refine blk_put (cs := #[.int .i64 0, .slice none 0 0]) ?_ 0 _ rfl; (with_reducible repeat (first | refine zJ ?_ _ | refine zK ?_ | refine zI ?_ _)); exact BK663.out))⟩; have n3_ : Aside0 (Below w.heap.size w w12) := ⟨(by rw [hw]; exact (zT HB.out GE663.out))⟩; clear hw; clear HO658; clear HO661; clear BK663; clear HB; have HO658 := n0_; have HO661 := n1_; have BK663 := n2_; have HB := n3_; clear n0_ n1_ n2_ n3_; have hcz13_0 : w12.cell? ⟨gb663, 0, none⟩ = some (.int .i64 t655) := (blk_cell BK663.out 0).trans rfl; have hcz13_1 : w12.cell? ⟨gb663, 1, none⟩ = some (.slice Ao11 t656.length co11) := (blk_cell BK663.out 1).trans rfl; have hfz13_0 := blk_frozen BK663.out 0; have hfz13_1 := blk_frozen BK663.out 1; obtain ⟨Ao14, co14, eo14⟩ := Kd.R_slice HO661.out; subst eo14) | ((with_reducible refine gate_callee (f := 31) rfl ?_); refine zO (some 31) Tryd.func31 #[.agg #[.int .i64 t655, .slice Ao11 t656.length co11], .slice Ao14 t659.length co14, .int .i64 t662] ?_; (with_reducible refine (impl_PrefixAt.calls k t655 (fun k_ => some k_ = (.slice Ao11 t656.length co11 : Value).ownBlock) _ _ t656 (fun k_ => some k_ = (.slice Ao14 t659.length co14 : Value).ownBlock) _ _ t659 t662 t664 t667 _ ?side1 ?side2 ?side3 A5.out).mono ?_); (case side1 => exact Kd.R_V (Kd.R_tight rfl (Kd.R_types (HO658.out) BK663.out (by decide)))); (case side2 => exact Kd.R_V (Kd.R_tight rfl (Kd.R_types (HO661.out) BK663.out (by decide)))); (case side3 => exact TabW.below HT.out (zT HB.out GE663.out)); rintro e w15 ⟨v665, rfl, ho0, hb⟩; refine ⟨_, rfl, ?_⟩; have n0_ := zA (Kd.R_elder' (zP HO658.out) (Kd.R_base ho0) hb); have n1_ := zA (Kd.R_elder' (zP HO661.out) (Kd.R_base ho0) hb); have n2_ := zA (Kd.R_lower (Kd.R_new' (Kd.R_new' (Kd.R_mono (ok' := fun k_ => True) ho0 (fun _ hk_ => trivial)) (Kd.R_lt (zP HO658.out))) (Kd.R_lt (zP HO661.out))) (below_size (zT HB.out GE663.out))); have n3_ := zA (blk_below (g := gb663) (o := .cells #[.int .i64 t655, .slice Ao11 t656.length co11] 26 (0, 0)) (zR BK663.out) hb); have n4_ := zA (below_step (zT HB.out GE663.out) hb); clear HO658; clear HO661; clear BK663; clear HB; have HO658 := n0_; have HO661 := n1_; have HO666 := n2_; have BK663 := n3_; have HB := n4_; clear n0_ n1_ n2_ n3_ n4_; (try clear hb); (try clear ho0); have hcz16_0 : w15.cell? ⟨gb663, 0, none⟩ = some (.int .i64 t655) := (blk_cell BK663.out 0).trans rfl; have hcz16_1 : w15.cell? ⟨gb663, 1, none⟩ = some (.slice Ao11 t656.length co11) := (blk_cell BK663.out 1).trans rfl; have hfz16_0 := blk_frozen BK663.out 0; have hfz16_1 := blk_frozen BK663.out 1) | ((with_reducible refine gate_callee (f := 32) rfl ?_); refine zO (some 38) Tryd.func32 #[.agg #[.int .i64 t655, .slice Ao11 t656.length co11], .slice Ao14 t659.length co14, .int .i64 t662] ?_; (with_reducible refine (spec_PrefixAt.calls k t655 _ _ t656 _ _ t659 t662 t668 t671 _ ?side1 ?side2 ?side3 ?side4 A6.out).mono ?_); (case side1 => exact zS (Kd.R_reads' HO658.out).2.2); (case side2 => exact (Kd.R_reads' HO658.out).2.1); (case side3 => exact zS (Kd.R_reads' HO661.out).2.2); (case side4 => exact (Kd.R_reads' HO661.out).2.1); rintro e w17 ⟨v669, rfl, ho0, hb⟩; refine ⟨_, rfl, ?_⟩; have n0_ := zA (Kd.R_elder' (zP HO658.out) (Kd.R_base ho0) hb); have n1_ := zA (Kd.R_elder' (zP HO661.out) (Kd.R_base ho0) hb); have n2_ := zA (Kd.R_elder' (zP HO666.out) (Kd.R_base ho0) hb); have n3_ := zA (Kd.R_lower (Kd.R_new' (Kd.R_new' (Kd.R_new' ho0 (Kd.R_lt (zP HO658.out))) (Kd.R_lt (zP HO661.out))) (Kd.R_lt (zP HO666.out))) (below_size (zT HB.out GE663.out))); have n4_ := zA (blk_below (g := gb663) (o := .cells #[.int .i64 t655, .slice Ao11 t656.length co11] 26 (0, 0)) (zR BK663.out) hb); have n5_ := zA (below_step (zT HB.out GE663.out) hb); clear HO658; clear HO661; clear HO666; clear BK663; clear HB; have HO658 := n0_; have HO661 := n1_; have HO666 := n2_; have HO670 := n3_; have BK663 := n4_; have HB := n5_; clear n0_ n1_ n2_ n3_ n4_ n5_; (try clear hb); (try clear ho0)))
 (try simp only [Act.put, zL, zM, zN])
 go_cut [49] (fun v49 wc => ∃ (kq : Nat) (x49_6 : Bool), v49 = .bool x49_6 ∧ Aside0 (laws_FnPrefixTraces.j0 kq t659 t662 t664 t667 x49_6 t655 t656 = some r) ∧ Aside0 (kq ≤ k) ∧ Aside0 (Kd.R (Kd.int .i64) 2 wc w.heap.size (fun k_ => some k_ ≠ (v665 : Value).ownBlock ∧ some k_ ≠ ((.slice Ao11 t656.length co11) : Value).ownBlock) (.slice Ao14 t659.length co14) t659) ∧ Aside0 (Kd.R (Kd.int .i64) 2 wc w.heap.size (fun k_ => some k_ ≠ ((.slice Ao14 t659.length co14) : Value).ownBlock ∧ some k_ ≠ ((.slice Ao11 t656.length co11) : Value).ownBlock) v665 t664) ∧ Aside0 (Kd.R (Kd.int .i64) 2 wc w.heap.size (fun k_ => some k_ ≠ ((.slice Ao14 t659.length co14) : Value).ownBlock ∧ some k_ ≠ (v665 : Value).ownBlock) (.slice Ao11 t656.length co11) t656) ∧ Aside0 (wc.heap[gb663]? = some (.cells #[.int .i64 t655, (.slice Ao11 t656.length co11)] 26 (0, 0))) ∧ Aside0 (Below w.heap.size w wc))
 case first =>
  have H := HC7.out
  clear HC7
  by_cases c18 : t667 = t671
  ·rw [if_pos c18] at H
   have c18b0 : (t667 == t671) = true := beq_iff_eq.mpr c18
   have c18b1 : (t667 != t671) = false := bne_eq_false_iff_eq.mpr c18
   clear c18
   (first | rw [c18b0] | (simp only [i64_w, i32_w]; rw [c18b0]) | skip)
   obtain ⟨t672, A19, H⟩ := zb H
   try dsimp only at H
   have H' := zA H
   clear H
   obtain ⟨Ao20, co20, eo20⟩ := Kd.R_slice HO666.out
   subst eo20
   obtain ⟨Ao21, co21, eo21⟩ := Kd.R_slice HO670.out
   subst eo21
   go_wp2_with (first | (go_at_call 20; (with_reducible refine (laws_likeInts.calls k _ _ t664 _ _ t668 t672 _ ?side1 ?side2 ?side3 ?side4 A19.out).mono ?_); (case side1 => exact zS (Kd.R_reads' HO666.out).2.2); (case side2 => exact (Kd.R_reads' HO666.out).2.1); (case side3 => exact zS (Kd.R_reads' HO670.out).2.2); (case side4 => exact (Kd.R_reads' HO670.out).2.1); rintro e w' ⟨rfl, ⟨nd, rfl⟩⟩))
   go_meet
   case rel => exact ⟨_, (!t672), (by first | rfl | (simp; done) | (simp [*]; done)), H', ⟨by first | omega | exact Nat.le_refl _⟩, ⟨by (with_reducible repeat (first | apply zF | apply zG | apply zH)); exact Kd.R_mono HO661.out (fun _ hk => ⟨hk.1.2, hk.1.1⟩)⟩, ⟨by (with_reducible repeat (first | apply zF | apply zG | apply zH)); exact Kd.R_mono HO666.out (fun _ hk => ⟨hk.1.2, hk.1.1.2⟩)⟩, ⟨by (with_reducible repeat (first | apply zF | apply zG | apply zH)); exact Kd.R_mono HO658.out (fun _ hk => ⟨hk.1.1, hk.1.2⟩)⟩, ⟨by (with_reducible repeat (first | refine zJ ?_ _ | refine zK ?_ | refine zI ?_ _)); exact BK663.out⟩, ⟨zT HB.out GE663.out⟩⟩
  rw [if_neg c18] at H
  have c18b0 : (t667 == t671) = false := beq_eq_false_iff_ne.mpr c18
  have c18b1 : (t667 != t671) = true := bne_iff_ne.mpr c18
  (first | rw [c18b0] | (simp only [i64_w, i32_w]; rw [c18b0]) | skip)
  have H' := zA H
  clear H
  go_wp2
  go_meet
  case rel => exact ⟨_, (true), (by first | rfl | (simp; done) | (simp [*]; done)), H', ⟨by first | omega | exact Nat.le_refl _⟩, ⟨by (with_reducible repeat (first | apply zF | apply zG | apply zH)); exact Kd.R_mono HO661.out (fun _ hk => ⟨hk.1.2, hk.1.1⟩)⟩, ⟨by (with_reducible repeat (first | apply zF | apply zG | apply zH)); exact Kd.R_mono HO666.out (fun _ hk => ⟨hk.1.2, hk.1.1.2⟩)⟩, ⟨by (with_reducible repeat (first | apply zF | apply zG | apply zH)); exact Kd.R_mono HO658.out (fun _ hk => ⟨hk.1.1, hk.1.2⟩)⟩, ⟨by (with_reducible repeat (first | refine zJ ?_ _ | refine zK ?_ | refine zI ?_ _)); exact BK663.out⟩, ⟨zT HB.out GE663.out⟩⟩
 case rest =>
  clear HC7
  try clear c1
  try clear p2
  try clear c3
  try clear c6
  try clear c9
  try clear c18
  try clear c18b0
  try clear c18b1
  try clear hcz10_0
  try clear hcz10_1
  try clear hcz13_0
  try clear hcz13_1
  try clear hcz16_0
  try clear hcz16_1
  try clear hfz10_0
  try clear hfz10_1
  try clear hfz13_0
  try clear hfz13_1
  try clear hfz16_0
  try clear hfz16_1
  obtain ⟨kq, x49_6, rfl, HA, HJ6, HO_4, HO_6, HO_664001, BK663, HB⟩ := hcut
  cases kq with
  | zero => exact absurd HA.out (by simp [laws_FnPrefixTraces.j0])
  | succ kj6 =>
   have H := HA.out
   clear HA
   simp only [laws_FnPrefixTraces.j0] at H
   by_cases c22 : x49_6 = true
   ·subst c22
    have H1 : (none) = some r := by rw [if_pos rfl] at H; exact H
    clear H
    have H := H1
    clear H1
    exact absurd H (by simp)
   replace c22 := Bool.eq_false_iff.mpr c22
   subst c22
   have H1 : (if t667 = 0 then ((impl_IsPrefix.f kj6 t655 t656 t664 t659).bind fun bt673 => (if bt673.2 = 0 then (if bt673.1 = true then ((laws_bits5.f kj6 t662).bind fun t675 => (laws_FnPrefixTraces.j1 kj6 t659 t662 ((t664.length : Int) != t675) t655 t656)) else (laws_FnPrefixTraces.j1 kj6 t659 t662 true t655 t656)) else (laws_FnPrefixTraces.j1 kj6 t659 t662 true t655 t656))) else (some true)) = some r := by rw [if_neg (show ¬ (false = true) by decide)] at H; exact H
   clear H
   have H := H1
   clear H1
   by_cases c23 : t667 = 0
   ·rw [if_pos c23] at H
    have c23b0 : (t667 == 0) = true := beq_iff_eq.mpr c23
    have c23b1 : (t667 != 0) = false := bne_eq_false_iff_eq.mpr c23
    clear c23
    obtain ⟨⟨t673, t674⟩, A24, H⟩ := zb H
    try dsimp only at H
    have HC25 := zA H
    clear H
    have hcz26_0 : wc.cell? ⟨gb663, 0, none⟩ = some (.int .i64 t655) := (blk_cell BK663.out 0).trans rfl
    have hcz26_1 : wc.cell? ⟨gb663, 1, none⟩ = some (.slice Ao11 t656.length co11) := (blk_cell BK663.out 1).trans rfl
    have hfz26_0 := blk_frozen BK663.out 0
    have hfz26_1 := blk_frozen BK663.out 1
    obtain ⟨Ao27, co27, eo27⟩ := Kd.R_slice HO_6.out
    subst eo27
    go_upto_region 11 with (first | ((with_reducible refine gate_callee (f := 16) rfl ?_); refine zO (some 56) Tryd.func16 #[.agg #[.int .i64 t655, .slice Ao11 t656.length co11], .slice Ao27 t664.length co27, .slice Ao14 t659.length co14] ?_; (with_reducible refine (impl_IsPrefix.calls kj6 t655 (fun k_ => some k_ = (.slice Ao11 t656.length co11 : Value).ownBlock) _ _ t656 (fun k_ => some k_ = (.slice Ao27 t664.length co27 : Value).ownBlock) _ _ t664 (fun k_ => some k_ = (.slice Ao14 t659.length co14 : Value).ownBlock) _ _ t659 t673 t674 _ ?side1 ?side2 ?side3 ?side4 A24.out).mono ?_); (case side1 => exact Kd.R_V (Kd.R_tight rfl (Kd.R_types (HO_664001.out) BK663.out (by decide)))); (case side2 => exact Kd.R_V (Kd.R_tight rfl (Kd.R_types (HO_6.out) BK663.out (by decide)))); (case side3 => exact Kd.R_V (Kd.R_tight rfl (Kd.R_types (HO_4.out) BK663.out (by decide)))); (case side4 => exact TabW.below HT.out (zT HB.out GE663.out)); rintro e w28 ⟨rfl, hb⟩; refine ⟨_, rfl, ?_⟩; have n0_ := zA (Kd.R_below (zP HO_4.out) hb); have n1_ := zA (Kd.R_below (zP HO_6.out) hb); have n2_ := zA (Kd.R_below (zP HO_664001.out) hb); have n3_ := zA (blk_below (g := gb663) (o := .cells #[.int .i64 t655, .slice Ao11 t656.length co11] 26 (0, 0)) (zR BK663.out) hb); have n4_ := zA (below_step (zT HB.out GE663.out) hb); clear HO_4; clear HO_6; clear HO_664001; clear BK663; clear HB; have HO_4 := n0_; have HO_6 := n1_; have HO_664001 := n2_; have BK663 := n3_; have HB := n4_; clear n0_ n1_ n2_ n3_ n4_; (try clear hb)))
    (try simp only [Act.put, zL, zM, zN])
    go_cut [71] (fun v71 wc => ∃ (kq : Nat) (x71_24 : Bool), v71 = .bool x71_24 ∧ Aside0 (laws_FnPrefixTraces.j1 kq t659 t662 x71_24 t655 t656 = some r) ∧ Aside0 (kq ≤ kj6) ∧ Aside0 (Kd.R (Kd.int .i64) 2 wc w.heap.size (fun k_ => some k_ ≠ ((.slice Ao11 t656.length co11) : Value).ownBlock) (.slice Ao14 t659.length co14) t659) ∧ Aside0 (Kd.R (Kd.int .i64) 2 wc w.heap.size (fun k_ => some k_ ≠ ((.slice Ao14 t659.length co14) : Value).ownBlock) (.slice Ao11 t656.length co11) t656) ∧ Aside0 (wc.heap[gb663]? = some (.cells #[.int .i64 t655, (.slice Ao11 t656.length co11)] 26 (0, 0))) ∧ Aside0 (Below w.heap.size w wc))
    case first =>
     have H := HC25.out
     clear HC25
     by_cases c29 : t674 = 0
     ·rw [if_pos c29] at H
      have c29b0 : (t674 == 0) = true := beq_iff_eq.mpr c29
      have c29b1 : (t674 != 0) = false := bne_eq_false_iff_eq.mpr c29
      clear c29
      (first | rw [c29b0] | (simp only [i64_w, i32_w]; rw [c29b0]) | skip)
      by_cases c30 : t673 = true
      ·subst c30
       have H1 : ((laws_bits5.f kj6 t662).bind fun t675 => (laws_FnPrefixTraces.j1 kj6 t659 t662 ((t664.length : Int) != t675) t655 t656)) = some r := by rw [if_pos rfl] at H; exact H
       clear H
       have H := H1
       clear H1
       obtain ⟨t675, A31, H⟩ := zb H
       try dsimp only at H
       have H' := zA H
       clear H
       go_wp2_with (first | (go_at_call 33; (with_reducible refine (laws_bits5.calls kj6 t662 t675 _ A31.out).mono ?_); rintro e w' ⟨rfl, ⟨nd, rfl⟩⟩))
       go_meet
       case rel => exact ⟨_, (((t664.length : Int) != t675)), (by first | rfl | (simp; done) | (simp [*]; done)), H', ⟨by have := HJ6.out; first | omega | exact Nat.le_refl _⟩, ⟨by (with_reducible repeat (first | apply zF | apply zG | apply zH)); exact Kd.R_mono HO_4.out (fun _ hk => hk.2)⟩, ⟨by (with_reducible repeat (first | apply zF | apply zG | apply zH)); exact Kd.R_mono HO_664001.out (fun _ hk => hk.1)⟩, ⟨by (with_reducible repeat (first | refine zJ ?_ _ | refine zK ?_ | refine zI ?_ _)); exact BK663.out⟩, ⟨zT HB.out GE663.out⟩⟩
      replace c30 := Bool.eq_false_iff.mpr c30
      subst c30
      have H1 : (laws_FnPrefixTraces.j1 kj6 t659 t662 true t655 t656) = some r := by rw [if_neg (show ¬ (false = true) by decide)] at H; exact H
      clear H
      have H := H1
      clear H1
      have H' := zA H
      clear H
      go_wp2
      go_meet
      case rel => exact ⟨_, (true), (by first | rfl | (simp; done) | (simp [*]; done)), H', ⟨by have := HJ6.out; first | omega | exact Nat.le_refl _⟩, ⟨by (with_reducible repeat (first | apply zF | apply zG | apply zH)); exact Kd.R_mono HO_4.out (fun _ hk => hk.2)⟩, ⟨by (with_reducible repeat (first | apply zF | apply zG | apply zH)); exact Kd.R_mono HO_664001.out (fun _ hk => hk.1)⟩, ⟨by (with_reducible repeat (first | refine zJ ?_ _ | refine zK ?_ | refine zI ?_ _)); exact BK663.out⟩, ⟨zT HB.out GE663.out⟩⟩
     rw [if_neg c29] at H
     have c29b0 : (t674 == 0) = false := beq_eq_false_iff_ne.mpr c29
     have c29b1 : (t674 != 0) = true := bne_iff_ne.mpr c29
     (first | rw [c29b0] | (simp only [i64_w, i32_w]; rw [c29b0]) | skip)
     have H' := zA H
     clear H
     go_wp2
     go_meet
     case rel => exact ⟨_, (true), (by first | rfl | (simp; done) | (simp [*]; done)), H', ⟨by have := HJ6.out; first | omega | exact Nat.le_refl _⟩, ⟨by (with_reducible repeat (first | apply zF | apply zG | apply zH)); exact Kd.R_mono HO_4.out (fun _ hk => hk.2)⟩, ⟨by (with_reducible repeat (first | apply zF | apply zG | apply zH)); exact Kd.R_mono HO_664001.out (fun _ hk => hk.1)⟩, ⟨by (with_reducible repeat (first | refine zJ ?_ _ | refine zK ?_ | refine zI ?_ _)); exact BK663.out⟩, ⟨zT HB.out GE663.out⟩⟩
    case rest =>
     clear HC25
     try clear c1
     try clear c2
     try clear p2
     try clear c3
     try clear c6
     try clear c9
     try clear c16
     try clear c18
     try clear c18b0
     try clear c18b1
     try clear c22
     try clear c23
     try clear c23b0
     try clear c23b1
     try clear c29
     try clear c29b0
     try clear c29b1
     try clear c30
     try clear c31
     try clear hcz10_0
     try clear hcz10_1
     try clear hcz13_0
     try clear hcz13_1
     try clear hcz16_0
     try clear hcz16_1
     try clear hcz26_0
     try clear hcz26_1
     try clear hfz10_0
     try clear hfz10_1
     try clear hfz13_0
     try clear hfz13_1
     try clear hfz16_0
     try clear hfz16_1
     try clear hfz26_0
     try clear hfz26_1
     try clear p2
     obtain ⟨kq, x71_24, rfl, HA, HJ24, HO_4, HO_664001, BK663, HB⟩ := hcut
     cases kq with
     | zero => exact absurd HA.out (by simp [laws_FnPrefixTraces.j1])
     | succ kj24 =>
      have H := HA.out
      clear HA
      simp only [laws_FnPrefixTraces.j1] at H
      by_cases c32 : x71_24 = true
      ·subst c32
       have H1 : (none) = some r := by rw [if_pos rfl] at H; exact H
       clear H
       have H := H1
       clear H1
       exact absurd H (by simp)
      replace c32 := Bool.eq_false_iff.mpr c32
      subst c32
      have H1 : ((impl_OrderOf.f kj24 t655 t656 t659).bind fun bt676 => (if bt676.2 = 0 then (laws_FnPrefixTraces.j2 kj24 t659 t662 bt676.1 ((bt676.1.length : Int) != (t659.length : Int)) t655 t656) else (laws_FnPrefixTraces.j2 kj24 t659 t662 bt676.1 true t655 t656))) = some r := by rw [if_neg (show ¬ (false = true) by decide)] at H; exact H
      clear H
      have H := H1
      clear H1
      obtain ⟨⟨t676, t679⟩, A33, H⟩ := zb H
      try dsimp only at H
      have HC34 := zA H
      clear H
      have hcz35_0 : wc.cell? ⟨gb663, 0, none⟩ = some (.int .i64 t655) := (blk_cell BK663.out 0).trans rfl
      have hcz35_1 : wc.cell? ⟨gb663, 1, none⟩ = some (.slice Ao11 t656.length co11) := (blk_cell BK663.out 1).trans rfl
      have hfz35_0 := blk_frozen BK663.out 0
      have hfz35_1 := blk_frozen BK663.out 1
      go_upto_region 14 with (first | ((with_reducible refine gate_callee (f := 34) rfl ?_); refine zO (some 75) Tryd.func34 #[.agg #[.int .i64 t655, .slice Ao11 t656.length co11], .slice Ao14 t659.length co14] ?_; (with_reducible refine (impl_OrderOf.calls kj24 t655 _ _ t656 (fun k_ => some k_ = (.slice Ao14 t659.length co14 : Value).ownBlock) _ _ t659 t676 t679 _ ?side1 ?side2 ?side3 ?side4 A33.out).mono ?_); (case side1 => exact zS (Kd.R_reads' HO_664001.out).2.2); (case side2 => exact (Kd.R_reads' HO_664001.out).2.1); (case side3 => exact Kd.R_V (Kd.R_tight rfl (Kd.R_types (HO_4.out) BK663.out (by decide)))); (case side4 => exact TabW.below HT.out (zT HB.out GE663.out)); rintro e w36 ⟨v677, rfl, ho0, hb⟩; refine ⟨_, rfl, ?_⟩; have n0_ := zA (Kd.R_elder' (zP HO_4.out) (Kd.R_base ho0) hb); have n1_ := zA (Kd.R_elder' (zP HO_664001.out) (Kd.R_base ho0) hb); have n2_ := zA (Kd.R_lower (Kd.R_new' (Kd.R_new' (Kd.R_mono (ok' := fun k_ => True) ho0 (fun _ hk_ => trivial)) (Kd.R_lt (zP HO_4.out))) (Kd.R_lt (zP HO_664001.out))) (below_size (zT HB.out GE663.out))); have n3_ := zA (blk_below (g := gb663) (o := .cells #[.int .i64 t655, .slice Ao11 t656.length co11] 26 (0, 0)) (zR BK663.out) hb); have n4_ := zA (below_step (zT HB.out GE663.out) hb); clear HO_4; clear HO_664001; clear BK663; clear HB; have HO_4 := n0_; have HO_664001 := n1_; have HO678 := n2_; have BK663 := n3_; have HB := n4_; clear n0_ n1_ n2_ n3_ n4_; (try clear hb); (try clear ho0)))
      (try simp only [Act.put, zL, zM, zN])
      go_cut [86] (fun v86 wc => ∃ (kq : Nat) (x86_33 : Bool), v86 = .bool x86_33 ∧ Aside0 (laws_FnPrefixTraces.j2 kq t659 t662 t676 x86_33 t655 t656 = some r) ∧ Aside0 (kq ≤ kj24) ∧ Aside0 (Kd.R (Kd.int .i64) 2 wc w.heap.size (fun k_ => some k_ ≠ (v677 : Value).ownBlock ∧ some k_ ≠ ((.slice Ao11 t656.length co11) : Value).ownBlock) (.slice Ao14 t659.length co14) t659) ∧ Aside0 (Kd.R (Kd.int .i64) 2 wc w.heap.size (fun k_ => some k_ ≠ ((.slice Ao14 t659.length co14) : Value).ownBlock ∧ some k_ ≠ ((.slice Ao11 t656.length co11) : Value).ownBlock) v677 t676) ∧ Aside0 (Kd.R (Kd.int .i64) 2 wc w.heap.size (fun k_ => some k_ ≠ ((.slice Ao14 t659.length co14) : Value).ownBlock ∧ some k_ ≠ (v677 : Value).ownBlock) (.slice Ao11 t656.length co11) t656) ∧ Aside0 (wc.heap[gb663]? = some (.cells #[.int .i64 t655, (.slice Ao11 t656.length co11)] 26 (0, 0))) ∧ Aside0 (Below w.heap.size w wc))
      case first =>
       have H := HC34.out
       clear HC34
       by_cases c37 : t679 = 0
       ·rw [if_pos c37] at H
        have c37b0 : (t679 == 0) = true := beq_iff_eq.mpr c37
        have c37b1 : (t679 != 0) = false := bne_eq_false_iff_eq.mpr c37
        clear c37
        (first | rw [c37b0] | (simp only [i64_w, i32_w]; rw [c37b0]) | skip)
        have H' := zA H
        clear H
        obtain ⟨Ao38, co38, eo38⟩ := Kd.R_slice HO678.out
        subst eo38
        go_wp2
        go_meet
        case rel => exact ⟨_, (((t676.length : Int) != (t659.length : Int))), (by first | rfl | (simp; done) | (simp [*]; done)), H', ⟨by have := HJ6.out; have := HJ24.out; first | omega | exact Nat.le_refl _⟩, ⟨by (with_reducible repeat (first | apply zF | apply zG | apply zH)); exact Kd.R_mono HO_4.out (fun _ hk => ⟨hk.2, hk.1⟩)⟩, ⟨by (with_reducible repeat (first | apply zF | apply zG | apply zH)); exact Kd.R_mono HO678.out (fun _ hk => ⟨hk.1.2, hk.2⟩)⟩, ⟨by (with_reducible repeat (first | apply zF | apply zG | apply zH)); exact HO_664001.out⟩, ⟨by (with_reducible repeat (first | refine zJ ?_ _ | refine zK ?_ | refine zI ?_ _)); exact BK663.out⟩, ⟨zT HB.out GE663.out⟩⟩
       rw [if_neg c37] at H
       have c37b0 : (t679 == 0) = false := beq_eq_false_iff_ne.mpr c37
       have c37b1 : (t679 != 0) = true := bne_iff_ne.mpr c37
       (first | rw [c37b0] | (simp only [i64_w, i32_w]; rw [c37b0]) | skip)
       have H' := zA H
       clear H
       go_wp2
       go_meet
       case rel => exact ⟨_, (true), (by first | rfl | (simp; done) | (simp [*]; done)), H', ⟨by have := HJ6.out; have := HJ24.out; first | omega | exact Nat.le_refl _⟩, ⟨by (with_reducible repeat (first | apply zF | apply zG | apply zH)); exact Kd.R_mono HO_4.out (fun _ hk => ⟨hk.2, hk.1⟩)⟩, ⟨by (with_reducible repeat (first | apply zF | apply zG | apply zH)); exact Kd.R_mono HO678.out (fun _ hk => ⟨hk.1.2, hk.2⟩)⟩, ⟨by (with_reducible repeat (first | apply zF | apply zG | apply zH)); exact HO_664001.out⟩, ⟨by (with_reducible repeat (first | refine zJ ?_ _ | refine zK ?_ | refine zI ?_ _)); exact BK663.out⟩, ⟨zT HB.out GE663.out⟩⟩
      case rest =>
       clear HC34
       try clear c1
       try clear c2
       try clear p2
       try clear c3
       try clear c6
       try clear c9
       try clear c16
       try clear c18
       try clear c18b0
       try clear c18b1
       try clear c22
       try clear c23
       try clear c23b0
       try clear c23b1
       try clear c29
       try clear c29b0
       try clear c29b1
       try clear c30
       try clear c31
       try clear c32
       try clear c34
       try clear c37
       try clear c37b0
       try clear c37b1
       try clear hcz10_0
       try clear hcz10_1
       try clear hcz13_0
       try clear hcz13_1
       try clear hcz16_0
       try clear hcz16_1
       try clear hcz26_0
       try clear hcz26_1
       try clear hcz35_0
       try clear hcz35_1
       try clear hfz10_0
       try clear hfz10_1
       try clear hfz13_0
       try clear hfz13_1
       try clear hfz16_0
       try clear hfz16_1
       try clear hfz26_0
       try clear hfz26_1
       try clear hfz35_0
       try clear hfz35_1
       try clear p2
       obtain ⟨kq, x86_33, rfl, HA, HJ33, HO_4, HO_12, HO_664001, BK663, HB⟩ := hcut
       cases kq with
       | zero => exact absurd HA.out (by simp [laws_FnPrefixTraces.j2])
       | succ kj33 =>
        have H := HA.out
        clear HA
        simp only [laws_FnPrefixTraces.j2] at H
        by_cases c39 : x86_33 = true
        ·subst c39
         have H1 : (none) = some r := by rw [if_pos rfl] at H; exact H
         clear H
         have H := H1
         clear H1
         exact absurd H (by simp)
        replace c39 := Bool.eq_false_iff.mpr c39
        subst c39
        have H1 : (laws_FnPrefixTraces.l0 kj33 t659 t662 t676 0 t655 t656) = some r := by rw [if_neg (show ¬ (false = true) by decide)] at H; exact H
        clear H
        have H := H1
        clear H1
        have H' := zA H
        clear H
        go_wp2
        go_loopg [14] kj33 (fun kq v14 w' => ∃ (x14_4 : Int), v14 = .int .i64 x14_4 ∧ Aside0 (laws_FnPrefixTraces.l0 kq t659 t662 t676 x14_4 t655 t656 = some r) ∧ Aside0 (kq ≤ kj33) ∧ Aside0 (Kd.R (Kd.int .i64) 2 w' w.heap.size (fun k_ => some k_ ≠ (v677 : Value).ownBlock ∧ some k_ ≠ ((.slice Ao11 t656.length co11) : Value).ownBlock) (.slice Ao14 t659.length co14) t659) ∧ Aside0 (Kd.R (Kd.int .i64) 2 w' w.heap.size (fun k_ => some k_ ≠ ((.slice Ao14 t659.length co14) : Value).ownBlock ∧ some k_ ≠ ((.slice Ao11 t656.length co11) : Value).ownBlock) v677 t676) ∧ Aside0 (Kd.R (Kd.int .i64) 2 w' w.heap.size (fun k_ => some k_ ≠ ((.slice Ao14 t659.length co14) : Value).ownBlock ∧ some k_ ≠ (v677 : Value).ownBlock) (.slice Ao11 t656.length co11) t656) ∧ Aside0 (w'.heap[gb663]? = some (.cells #[.int .i64 t655, (.slice Ao11 t656.length co11)] 26 (0, 0))) ∧ Aside0 (Below w.heap.size w w'))
        case atStart => exact ⟨(0), (by first | rfl | (simp; done) | (simp [*]; done)), H', ⟨Nat.le_refl _⟩, ⟨by (with_reducible repeat (first | apply zF | apply zG | apply zH)); exact HO_4.out⟩, ⟨by (with_reducible repeat (first | apply zF | apply zG | apply zH)); exact HO_12.out⟩, ⟨by (with_reducible repeat (first | apply zF | apply zG | apply zH)); exact HO_664001.out⟩, ⟨by (with_reducible repeat (first | refine zJ ?_ _ | refine zK ?_ | refine zI ?_ _)); exact BK663.out⟩, ⟨zT HB.out GE663.out⟩⟩
        case round =>
         clear H'
         try clear c1
         try clear c2
         try clear p2
         try clear c3
         try clear c6
         try clear c9
         try clear c16
         try clear c18
         try clear c18b0
         try clear c18b1
         try clear c22
         try clear c23
         try clear c23b0
         try clear c23b1
         try clear c29
         try clear c29b0
         try clear c29b1
         try clear c30
         try clear c31
         try clear c32
         try clear c34
         try clear c37
         try clear c37b0
         try clear c37b1
         try clear c39
         try clear hcz10_0
         try clear hcz10_1
         try clear hcz13_0
         try clear hcz13_1
         try clear hcz16_0
         try clear hcz16_1
         try clear hcz26_0
         try clear hcz26_1
         try clear hcz35_0
         try clear hcz35_1
         try clear hfz10_0
         try clear hfz10_1
         try clear hfz13_0
         try clear hfz13_1
         try clear hfz16_0
         try clear hfz16_1
         try clear hfz26_0
         try clear hfz26_1
         try clear hfz35_0
         try clear hfz35_1
         try clear p2
         obtain ⟨x14_4, rfl, HA, HK4, HO_4, HO_12, HO_664001, BK663, HB⟩ := hrel
         cases gk with
         | zero => exact absurd HA.out (by simp [laws_FnPrefixTraces.l0])
         | succ k4 =>
          have H := HA.out
          clear HA
          simp only [laws_FnPrefixTraces.l0] at H
          by_cases c40 : x14_4 < (t659.length : Int)
          ·rw [if_pos c40] at H
           have c40b0 : decide (x14_4 < (t659.length : Int)) = true := decide_eq_true c40
           clear c40
           obtain ⟨⟨t680, t681⟩, A41, H⟩ := zb H
           try dsimp only at H
           obtain ⟨⟨t682, t683⟩, A42, H⟩ := zb H
           try dsimp only at H
           have HC43 := zA H
           clear H
           have hcz44_0 : wr.cell? ⟨gb663, 0, none⟩ = some (.int .i64 t655) := (blk_cell BK663.out 0).trans rfl
           have hcz44_1 : wr.cell? ⟨gb663, 1, none⟩ = some (.slice Ao11 t656.length co11) := (blk_cell BK663.out 1).trans rfl
           have hfz44_0 := blk_frozen BK663.out 0
           have hfz44_1 := blk_frozen BK663.out 1
           go_upto_region 21 with (first | ((with_reducible refine gate_callee (f := 35) rfl ?_); refine zO (some 97) Tryd.func35 #[.agg #[.int .i64 t655, .slice Ao11 t656.length co11], .slice Ao14 t659.length co14, .int .i64 x14_4] ?_; (with_reducible refine (impl_PastOf.calls k4 t655 _ _ t656 _ _ t659 x14_4 t680 t681 _ ?side1 ?side2 ?side3 ?side4 ?side5 A41.out).mono ?_); (case side1 => exact zS (Kd.R_reads' HO_664001.out).2.2); (case side2 => exact (Kd.R_reads' HO_664001.out).2.1); (case side3 => exact zS (Kd.R_reads' HO_4.out).2.2); (case side4 => exact (Kd.R_reads' HO_4.out).2.1); (case side5 => exact TabW.below HT.out (zT HB.out GE663.out)); rintro e w45 ⟨rfl, hb⟩; refine ⟨_, rfl, ?_⟩; have n0_ := zA (Kd.R_below (zP HO_4.out) hb); have n1_ := zA (Kd.R_below (zP HO_12.out) hb); have n2_ := zA (Kd.R_below (zP HO_664001.out) hb); have n3_ := zA (blk_below (g := gb663) (o := .cells #[.int .i64 t655, .slice Ao11 t656.length co11] 26 (0, 0)) (zR BK663.out) hb); have n4_ := zA (below_step (zT HB.out GE663.out) hb); clear HO_4; clear HO_12; clear HO_664001; clear BK663; clear HB; have HO_4 := n0_; have HO_12 := n1_; have HO_664001 := n2_; have BK663 := n3_; have HB := n4_; clear n0_ n1_ n2_ n3_ n4_; (try clear hb); have hcz46_0 : w45.cell? ⟨gb663, 0, none⟩ = some (.int .i64 t655) := (blk_cell BK663.out 0).trans rfl; have hcz46_1 : w45.cell? ⟨gb663, 1, none⟩ = some (.slice Ao11 t656.length co11) := (blk_cell BK663.out 1).trans rfl; have hfz46_0 := blk_frozen BK663.out 0; have hfz46_1 := blk_frozen BK663.out 1) | ((with_reducible refine gate_callee (f := 36) rfl ?_); refine zO (some 104) Tryd.func36 #[.agg #[.int .i64 t655, .slice Ao11 t656.length co11], .slice Ao14 t659.length co14, .int .i64 x14_4] ?_; (with_reducible refine (impl_ConcurrentWith.calls k4 t655 _ _ t656 _ _ t659 x14_4 t682 t683 _ ?side1 ?side2 ?side3 ?side4 ?side5 A42.out).mono ?_); (case side1 => exact zS (Kd.R_reads' HO_664001.out).2.2); (case side2 => exact (Kd.R_reads' HO_664001.out).2.1); (case side3 => exact zS (Kd.R_reads' HO_4.out).2.2); (case side4 => exact (Kd.R_reads' HO_4.out).2.1); (case side5 => exact TabW.below HT.out (zT HB.out GE663.out)); rintro e w47 ⟨rfl, hb⟩; refine ⟨_, rfl, ?_⟩; have n0_ := zA (Kd.R_below (zP HO_4.out) hb); have n1_ := zA (Kd.R_below (zP HO_12.out) hb); have n2_ := zA (Kd.R_below (zP HO_664001.out) hb); have n3_ := zA (blk_below (g := gb663) (o := .cells #[.int .i64 t655, .slice Ao11 t656.length co11] 26 (0, 0)) (zR BK663.out) hb); have n4_ := zA (below_step (zT HB.out GE663.out) hb); clear HO_4; clear HO_12; clear HO_664001; clear BK663; clear HB; have HO_4 := n0_; have HO_12 := n1_; have HO_664001 := n2_; have BK663 := n3_; have HB := n4_; clear n0_ n1_ n2_ n3_ n4_; (try clear hb)))
           (try simp only [Act.put, zL, zM, zN])
           go_cut [112] (fun v112 wc => ∃ (kq : Nat) (x112_42 : Bool), v112 = .bool x112_42 ∧ Aside0 (laws_FnPrefixTraces.j4 kq t659 t662 t676 x14_4 t680 t682 x112_42 t655 t656 = some r) ∧ Aside0 (kq ≤ k4) ∧ Aside0 (Kd.R (Kd.int .i64) 2 wc w.heap.size (fun k_ => some k_ ≠ (v677 : Value).ownBlock ∧ some k_ ≠ ((.slice Ao11 t656.length co11) : Value).ownBlock) (.slice Ao14 t659.length co14) t659) ∧ Aside0 (Kd.R (Kd.int .i64) 2 wc w.heap.size (fun k_ => some k_ ≠ ((.slice Ao14 t659.length co14) : Value).ownBlock ∧ some k_ ≠ ((.slice Ao11 t656.length co11) : Value).ownBlock) v677 t676) ∧ Aside0 (Kd.R (Kd.int .i64) 2 wc w.heap.size (fun k_ => some k_ ≠ ((.slice Ao14 t659.length co14) : Value).ownBlock ∧ some k_ ≠ (v677 : Value).ownBlock) (.slice Ao11 t656.length co11) t656) ∧ Aside0 (wc.heap[gb663]? = some (.cells #[.int .i64 t655, (.slice Ao11 t656.length co11)] 26 (0, 0))) ∧ Aside0 (Below w.heap.size w wc))
           case first =>
            have H := HC43.out
            clear HC43
            by_cases c48 : t681 = 0
            ·rw [if_pos c48] at H
             have c48b0 : (t681 == 0) = true := beq_iff_eq.mpr c48
             have c48b1 : (t681 != 0) = false := bne_eq_false_iff_eq.mpr c48
             clear c48
             (first | rw [c48b0] | (simp only [i64_w, i32_w]; rw [c48b0]) | skip)
             have H' := zA H
             clear H
             go_wp2
             go_meet
             case rel => exact ⟨_, ((t683 != 0)), (by first | rfl | (simp; done) | (simp [*]; done)), H', ⟨by have := HJ6.out; have := HJ24.out; have := HJ33.out; have := HK4.out; first | omega | exact Nat.le_refl _⟩, ⟨by (with_reducible repeat (first | apply zF | apply zG | apply zH)); exact HO_4.out⟩, ⟨by (with_reducible repeat (first | apply zF | apply zG | apply zH)); exact HO_12.out⟩, ⟨by (with_reducible repeat (first | apply zF | apply zG | apply zH)); exact HO_664001.out⟩, ⟨by (with_reducible repeat (first | refine zJ ?_ _ | refine zK ?_ | refine zI ?_ _)); exact BK663.out⟩, ⟨zT HB.out GE663.out⟩⟩
            rw [if_neg c48] at H
            have c48b0 : (t681 == 0) = false := beq_eq_false_iff_ne.mpr c48
            have c48b1 : (t681 != 0) = true := bne_iff_ne.mpr c48
            (first | rw [c48b0] | (simp only [i64_w, i32_w]; rw [c48b0]) | skip)
            have H' := zA H
            clear H
            go_wp2
            go_meet
            case rel => exact ⟨_, (true), (by first | rfl | (simp; done) | (simp [*]; done)), H', ⟨by have := HJ6.out; have := HJ24.out; have := HJ33.out; have := HK4.out; first | omega | exact Nat.le_refl _⟩, ⟨by (with_reducible repeat (first | apply zF | apply zG | apply zH)); exact HO_4.out⟩, ⟨by (with_reducible repeat (first | apply zF | apply zG | apply zH)); exact HO_12.out⟩, ⟨by (with_reducible repeat (first | apply zF | apply zG | apply zH)); exact HO_664001.out⟩, ⟨by (with_reducible repeat (first | refine zJ ?_ _ | refine zK ?_ | refine zI ?_ _)); exact BK663.out⟩, ⟨zT HB.out GE663.out⟩⟩
           case rest =>
            clear HC43
            try clear c1
            try clear c2
            try clear p2
            try clear c3
            try clear c4
            try clear c6
            try clear c9
            try clear c16
            try clear c18
            try clear c18b0
            try clear c18b1
            try clear c22
            try clear c23
            try clear c23b0
            try clear c23b1
            try clear c29
            try clear c29b0
            try clear c29b1
            try clear c30
            try clear c31
            try clear c32
            try clear c34
            try clear c35
            try clear c36
            try clear c37
            try clear c37b0
            try clear c37b1
            try clear c39
            try clear c40
            try clear c40b0
            try clear c48
            try clear c48b0
            try clear c48b1
            try clear hcz10_0
            try clear hcz10_1
            try clear hcz13_0
            try clear hcz13_1
            try clear hcz16_0
            try clear hcz16_1
            try clear hcz26_0
            try clear hcz26_1
            try clear hcz35_0
            try clear hcz35_1
            try clear hcz44_0
            try clear hcz44_1
            try clear hcz46_0
            try clear hcz46_1
            try clear hfz10_0
            try clear hfz10_1
            try clear hfz13_0
            try clear hfz13_1
            try clear hfz16_0
            try clear hfz16_1
            try clear hfz26_0
            try clear hfz26_1
            try clear hfz35_0
            try clear hfz35_1
            try clear hfz44_0
            try clear hfz44_1
            try clear hfz46_0
            try clear hfz46_1
            try clear p2
            obtain ⟨kq, x112_42, rfl, HA, HJ42, HO_4, HO_12, HO_664001, BK663, HB⟩ := hcut
            cases kq with
            | zero => exact absurd HA.out (by simp [laws_FnPrefixTraces.j4])
            | succ kj42 =>
             have H := HA.out
             clear HA
             simp only [laws_FnPrefixTraces.j4] at H
             by_cases c49 : x112_42 = true
             ·subst c49
              have H1 : (none) = some r := by rw [if_pos rfl] at H; exact H
              clear H
              have H := H1
              clear H1
              exact absurd H (by simp)
             replace c49 := Bool.eq_false_iff.mpr c49
             subst c49
             have H1 : (if 0 ≤ x14_4 then (if x14_4 < (t676.length : Int) then (if 0 ≤ (IntKind.u64.wrap (x14_4)) then (if (Go.bits .and .i64 t680 (rd t676 x14_4)) = (shl .i64 1 (IntKind.u64.wrap (x14_4))) then (if 0 ≤ (IntKind.u64.wrap ((t659.length : Int))) then (if (Go.bits .or .i64 (Go.bits .or .i64 t680 (rd t676 x14_4)) t682) = (wrap64 ((shl .i64 1 (IntKind.u64.wrap ((t659.length : Int)))) - 1)) then (laws_FnPrefixTraces.j5 kj42 t659 t662 t676 x14_4 t680 ((Go.bits .and .i64 (Go.bits .or .i64 t680 (rd t676 x14_4)) t682) != 0) t655 t656) else (laws_FnPrefixTraces.j5 kj42 t659 t662 t676 x14_4 t680 true t655 t656)) else (none)) else (laws_FnPrefixTraces.j5 kj42 t659 t662 t676 x14_4 t680 true t655 t656)) else (none)) else (none)) else (none)) = some r := by rw [if_neg (show ¬ (false = true) by decide)] at H; exact H
             clear H
             have H := H1
             clear H1
             have HC50 := zA H
             clear H
             go_upto_region 23 with (fail)
             go_cut [149] (fun v149 wc => ∃ (kq : Nat) (x149_49 : Bool), v149 = .bool x149_49 ∧ Aside0 (laws_FnPrefixTraces.j5 kq t659 t662 t676 x14_4 t680 x149_49 t655 t656 = some r) ∧ Aside0 (kq ≤ kj42) ∧ Aside0 (Kd.R (Kd.int .i64) 2 wc w.heap.size (fun k_ => some k_ ≠ (v677 : Value).ownBlock ∧ some k_ ≠ ((.slice Ao11 t656.length co11) : Value).ownBlock) (.slice Ao14 t659.length co14) t659) ∧ Aside0 (Kd.R (Kd.int .i64) 2 wc w.heap.size (fun k_ => some k_ ≠ ((.slice Ao14 t659.length co14) : Value).ownBlock ∧ some k_ ≠ ((.slice Ao11 t656.length co11) : Value).ownBlock) v677 t676) ∧ Aside0 (Kd.R (Kd.int .i64) 2 wc w.heap.size (fun k_ => some k_ ≠ ((.slice Ao14 t659.length co14) : Value).ownBlock ∧ some k_ ≠ (v677 : Value).ownBlock) (.slice Ao11 t656.length co11) t656) ∧ Aside0 (wc.heap[gb663]? = some (.cells #[.int .i64 t655, (.slice Ao11 t656.length co11)] 26 (0, 0))) ∧ Aside0 (Below w.heap.size w wc))
             case first =>
              have H := HC50.out
              clear HC50
              by_cases c51 : 0 ≤ x14_4
              ·rw [if_pos c51] at H
               have c51b0 : decide (0 ≤ x14_4) = true := decide_eq_true c51
               clear c51
               (first | rw [c51b0] | (simp only [i64_w, i32_w]; rw [c51b0]) | skip)
               by_cases c52 : x14_4 < (t676.length : Int)
               ·rw [if_pos c52] at H
                have c52b0 : decide (x14_4 < (t676.length : Int)) = true := decide_eq_true c52
                clear c52
                obtain ⟨ji53, hji53⟩ : ∃ j_ : Int, (IntKind.u64.wrap (x14_4)) = j_ := ⟨_, rfl⟩
                replace H : (if 0 ≤ (ji53) then (if (Go.bits .and .i64 t680 (rd t676 x14_4)) = (shl .i64 1 (ji53)) then (if 0 ≤ (IntKind.u64.wrap ((t659.length : Int))) then (if (Go.bits .or .i64 (Go.bits .or .i64 t680 (rd t676 x14_4)) t682) = (wrap64 ((shl .i64 1 (IntKind.u64.wrap ((t659.length : Int)))) - 1)) then (laws_FnPrefixTraces.j5 kj42 t659 t662 t676 x14_4 t680 ((Go.bits .and .i64 (Go.bits .or .i64 t680 (rd t676 x14_4)) t682) != 0) t655 t656) else (laws_FnPrefixTraces.j5 kj42 t659 t662 t676 x14_4 t680 true t655 t656)) else (none)) else (laws_FnPrefixTraces.j5 kj42 t659 t662 t676 x14_4 t680 true t655 t656)) else (none)) = some r := by first | (rw [hji53] at H; exact H) | (simp only [hji53] at H ⊢; exact H)
                by_cases c54 : 0 ≤ (ji53)
                ·rw [if_pos c54] at H
                 have c54b0 := eq_true c54
                 have c54b1 : decide (0 ≤ (ji53)) = true := decide_eq_true c54
                 clear c54
                 obtain ⟨ji55, hji55⟩ : ∃ j_ : Int, (shl .i64 1 (ji53)) = j_ := ⟨_, rfl⟩
                 replace H : (if (Go.bits .and .i64 t680 (rd t676 x14_4)) = (ji55) then (if 0 ≤ (IntKind.u64.wrap ((t659.length : Int))) then (if (Go.bits .or .i64 (Go.bits .or .i64 t680 (rd t676 x14_4)) t682) = (wrap64 ((shl .i64 1 (IntKind.u64.wrap ((t659.length : Int)))) - 1)) then (laws_FnPrefixTraces.j5 kj42 t659 t662 t676 x14_4 t680 ((Go.bits .and .i64 (Go.bits .or .i64 t680 (rd t676 x14_4)) t682) != 0) t655 t656) else (laws_FnPrefixTraces.j5 kj42 t659 t662 t676 x14_4 t680 true t655 t656)) else (none)) else (laws_FnPrefixTraces.j5 kj42 t659 t662 t676 x14_4 t680 true t655 t656)) = some r := by first | (rw [hji55] at H; exact H) | (simp only [hji55] at H ⊢; exact H)
                 have hji55_ : (IntKind.i64.wrap (1 * 2 ^ min (ji53).toNat 64)) = ji55 := hji55
                 have hji55z : (ji53) ≤ 64 → (IntKind.i64.wrap (1 * 2 ^ (ji53).toNat)) = ji55 := shl_small hji55
                 have hji55u : (IntKind.i64.wrap (2 ^ min (ji53).toNat 64)) = ji55 := by have h_ := hji55_; rw [Int.one_mul] at h_; exact h_
                 have hji55v : (ji53) ≤ 64 → (IntKind.i64.wrap (2 ^ (ji53).toNat)) = ji55 := fun hle_ => by have h_ := hji55z hle_; rw [Int.one_mul] at h_; exact h_
                 have hji55y : (wrap64 (1 * 2 ^ min (ji53).toNat 64)) = ji55 := (i64_w _).symm.trans hji55_
                 have hji55x : (ji53) ≤ 64 → (wrap64 (1 * 2 ^ (ji53).toNat)) = ji55 := fun h_ => (i64_w _).symm.trans (hji55z h_)
                 by_cases c56 : (Go.bits .and .i64 t680 (rd t676 x14_4)) = (ji55)
                 ·rw [if_pos c56] at H
                  have c56b0 : ((Go.bits .and .i64 t680 (rd t676 x14_4)) == (ji55)) = true := beq_iff_eq.mpr c56
                  have c56b1 : ((Go.bits .and .i64 t680 (rd t676 x14_4)) != (ji55)) = false := bne_eq_false_iff_eq.mpr c56
                  clear c56
                  obtain ⟨ji57, hji57⟩ : ∃ j_ : Int, (IntKind.u64.wrap ((t659.length : Int))) = j_ := ⟨_, rfl⟩
                  replace H : (if 0 ≤ (ji57) then (if (Go.bits .or .i64 (Go.bits .or .i64 t680 (rd t676 x14_4)) t682) = (wrap64 ((shl .i64 1 (ji57)) - 1)) then (laws_FnPrefixTraces.j5 kj42 t659 t662 t676 x14_4 t680 ((Go.bits .and .i64 (Go.bits .or .i64 t680 (rd t676 x14_4)) t682) != 0) t655 t656) else (laws_FnPrefixTraces.j5 kj42 t659 t662 t676 x14_4 t680 true t655 t656)) else (none)) = some r := by first | (rw [hji57] at H; exact H) | (simp only [hji57] at H ⊢; exact H)
                  by_cases c58 : 0 ≤ (ji57)
                  ·rw [if_pos c58] at H
                   have c58b0 := eq_true c58
                   have c58b1 : decide (0 ≤ (ji57)) = true := decide_eq_true c58
                   clear c58
                   obtain ⟨ji59, hji59⟩ : ∃ j_ : Int, (shl .i64 1 (ji57)) = j_ := ⟨_, rfl⟩
                   replace H : (if (Go.bits .or .i64 (Go.bits .or .i64 t680 (rd t676 x14_4)) t682) = (wrap64 ((ji59) - 1)) then (laws_FnPrefixTraces.j5 kj42 t659 t662 t676 x14_4 t680 ((Go.bits .and .i64 (Go.bits .or .i64 t680 (rd t676 x14_4)) t682) != 0) t655 t656) else (laws_FnPrefixTraces.j5 kj42 t659 t662 t676 x14_4 t680 true t655 t656)) = some r := by first | (rw [hji59] at H; exact H) | (simp only [hji59] at H ⊢; exact H)
                   have hji59_ : (IntKind.i64.wrap (1 * 2 ^ min (ji57).toNat 64)) = ji59 := hji59
                   have hji59z : (ji57) ≤ 64 → (IntKind.i64.wrap (1 * 2 ^ (ji57).toNat)) = ji59 := shl_small hji59
                   have hji59u : (IntKind.i64.wrap (2 ^ min (ji57).toNat 64)) = ji59 := by have h_ := hji59_; rw [Int.one_mul] at h_; exact h_
                   have hji59v : (ji57) ≤ 64 → (IntKind.i64.wrap (2 ^ (ji57).toNat)) = ji59 := fun hle_ => by have h_ := hji59z hle_; rw [Int.one_mul] at h_; exact h_
                   have hji59y : (wrap64 (1 * 2 ^ min (ji57).toNat 64)) = ji59 := (i64_w _).symm.trans hji59_
                   have hji59x : (ji57) ≤ 64 → (wrap64 (1 * 2 ^ (ji57).toNat)) = ji59 := fun h_ => (i64_w _).symm.trans (hji59z h_)
                   by_cases c60 : (Go.bits .or .i64 (Go.bits .or .i64 t680 (rd t676 x14_4)) t682) = (wrap64 ((ji59) - 1))
                   ·rw [if_pos c60] at H
                    have c60b0 : ((Go.bits .or .i64 (Go.bits .or .i64 t680 (rd t676 x14_4)) t682) == (wrap64 ((ji59) - 1))) = true := beq_iff_eq.mpr c60
                    have c60b1 : ((Go.bits .or .i64 (Go.bits .or .i64 t680 (rd t676 x14_4)) t682) != (wrap64 ((ji59) - 1))) = false := bne_eq_false_iff_eq.mpr c60
                    clear c60
                    have H' := zA H
                    clear H
                    obtain ⟨Ao61, co61, eo61⟩ := Kd.R_slice HO_12.out
                    subst eo61
                    have p684 : 0 ≤ (x14_4 : Int) := zd
                    have q684 : x14_4 < (t676.length : Int) := zd
                    obtain ⟨ad684, e684, hx684_0⟩ := Kd.at_int (Kd.R_reads' HO_12.out).2.2 x14_4 p684 q684
                    cases e684
                    replace p684 := eq_true p684
                    replace q684 := eq_true q684
                    have p685 : 0 ≤ (x14_4 : Int) := zd
                    have q685 : x14_4 < (t676.length : Int) := zd
                    obtain ⟨ad685, e685, hx685_0⟩ := Kd.at_int (Kd.R_reads' HO_12.out).2.2 x14_4 p685 q685
                    obtain rfl : ad684 = ad685 := (by injection e685)
                    replace p685 := eq_true p685
                    replace q685 := eq_true q685
                    have p686 : 0 ≤ (x14_4 : Int) := zd
                    have q686 : x14_4 < (t676.length : Int) := zd
                    obtain ⟨ad686, e686, hx686_0⟩ := Kd.at_int (Kd.R_reads' HO_12.out).2.2 x14_4 p686 q686
                    obtain rfl : ad684 = ad686 := (by injection e686)
                    replace p686 := eq_true p686
                    replace q686 := eq_true q686
                    go_wp2
                    go_meet
                    case rel => exact ⟨_, (((Go.bits .and .i64 (Go.bits .or .i64 t680 (rd t676 x14_4)) t682) != 0)), (by first | rfl | (simp; done) | (simp [*]; done)), H', ⟨by have := HJ6.out; have := HJ24.out; have := HJ33.out; have := HK4.out; have := HJ42.out; first | omega | exact Nat.le_refl _⟩, ⟨by (with_reducible repeat (first | apply zF | apply zG | apply zH)); exact HO_4.out⟩, ⟨by (with_reducible repeat (first | apply zF | apply zG | apply zH)); exact HO_12.out⟩, ⟨by (with_reducible repeat (first | apply zF | apply zG | apply zH)); exact HO_664001.out⟩, ⟨by (with_reducible repeat (first | refine zJ ?_ _ | refine zK ?_ | refine zI ?_ _)); exact BK663.out⟩, ⟨zT HB.out GE663.out⟩⟩
                   rw [if_neg c60] at H
                   have c60b0 : ((Go.bits .or .i64 (Go.bits .or .i64 t680 (rd t676 x14_4)) t682) == (wrap64 ((ji59) - 1))) = false := beq_eq_false_iff_ne.mpr c60
                   have c60b1 : ((Go.bits .or .i64 (Go.bits .or .i64 t680 (rd t676 x14_4)) t682) != (wrap64 ((ji59) - 1))) = true := bne_iff_ne.mpr c60
                   have H' := zA H
                   clear H
                   obtain ⟨Ao62, co62, eo62⟩ := Kd.R_slice HO_12.out
                   subst eo62
                   have p684 : 0 ≤ (x14_4 : Int) := zd
                   have q684 : x14_4 < (t676.length : Int) := zd
                   obtain ⟨ad684, e684, hx684_0⟩ := Kd.at_int (Kd.R_reads' HO_12.out).2.2 x14_4 p684 q684
                   cases e684
                   replace p684 := eq_true p684
                   replace q684 := eq_true q684
                   have p685 : 0 ≤ (x14_4 : Int) := zd
                   have q685 : x14_4 < (t676.length : Int) := zd
                   obtain ⟨ad685, e685, hx685_0⟩ := Kd.at_int (Kd.R_reads' HO_12.out).2.2 x14_4 p685 q685
                   obtain rfl : ad684 = ad685 := (by injection e685)
                   replace p685 := eq_true p685
                   replace q685 := eq_true q685
                   go_wp2
                   go_meet
                   case rel => exact ⟨_, (true), (by first | rfl | (simp; done) | (simp [*]; done)), H', ⟨by have := HJ6.out; have := HJ24.out; have := HJ33.out; have := HK4.out; have := HJ42.out; first | omega | exact Nat.le_refl _⟩, ⟨by (with_reducible repeat (first | apply zF | apply zG | apply zH)); exact HO_4.out⟩, ⟨by (with_reducible repeat (first | apply zF | apply zG | apply zH)); exact HO_12.out⟩, ⟨by (with_reducible repeat (first | apply zF | apply zG | apply zH)); exact HO_664001.out⟩, ⟨by (with_reducible repeat (first | refine zJ ?_ _ | refine zK ?_ | refine zI ?_ _)); exact BK663.out⟩, ⟨zT HB.out GE663.out⟩⟩
                  rw [if_neg c58] at H
                  exact absurd H (by simp)
                 rw [if_neg c56] at H
                 have c56b0 : ((Go.bits .and .i64 t680 (rd t676 x14_4)) == (ji55)) = false := beq_eq_false_iff_ne.mpr c56
                 have c56b1 : ((Go.bits .and .i64 t680 (rd t676 x14_4)) != (ji55)) = true := bne_iff_ne.mpr c56
                 have H' := zA H
                 clear H
                 obtain ⟨Ao63, co63, eo63⟩ := Kd.R_slice HO_12.out
                 subst eo63
                 have p684 : 0 ≤ (x14_4 : Int) := zd
                 have q684 : x14_4 < (t676.length : Int) := zd
                 obtain ⟨ad684, e684, hx684_0⟩ := Kd.at_int (Kd.R_reads' HO_12.out).2.2 x14_4 p684 q684
                 cases e684
                 replace p684 := eq_true p684
                 replace q684 := eq_true q684
                 go_wp2
                 go_meet
                 case rel => exact ⟨_, (true), (by first | rfl | (simp; done) | (simp [*]; done)), H', ⟨by have := HJ6.out; have := HJ24.out; have := HJ33.out; have := HK4.out; have := HJ42.out; first | omega | exact Nat.le_refl _⟩, ⟨by (with_reducible repeat (first | apply zF | apply zG | apply zH)); exact HO_4.out⟩, ⟨by (with_reducible repeat (first | apply zF | apply zG | apply zH)); exact HO_12.out⟩, ⟨by (with_reducible repeat (first | apply zF | apply zG | apply zH)); exact HO_664001.out⟩, ⟨by (with_reducible repeat (first | refine zJ ?_ _ | refine zK ?_ | refine zI ?_ _)); exact BK663.out⟩, ⟨zT HB.out GE663.out⟩⟩
                rw [if_neg c54] at H
                exact absurd H (by simp)
               rw [if_neg c52] at H
               exact absurd H (by simp)
              rw [if_neg c51] at H
              exact absurd H (by simp)
             case rest =>
              clear HC50
              try clear c1
              try clear c2
              try clear p2
              try clear c3
              try clear c4
              try clear c5
              try clear c6
              try clear p6
              try clear q6
              try clear hx6
              try clear c9
              try clear c16
              try clear c18
              try clear c18b0
              try clear c18b1
              try clear c22
              try clear c23
              try clear c23b0
              try clear c23b1
              try clear c29
              try clear c29b0
              try clear c29b1
              try clear c30
              try clear c31
              try clear c32
              try clear c34
              try clear c35
              try clear c36
              try clear c37
              try clear c37b0
              try clear c37b1
              try clear c39
              try clear c40
              try clear c40b0
              try clear c48
              try clear c48b0
              try clear c48b1
              try clear c49
              try clear c51
              try clear c51b0
              try clear c52
              try clear c52b0
              try clear c54
              try clear c54b0
              try clear c54b1
              try clear c56
              try clear c56b0
              try clear c56b1
              try clear c58
              try clear c58b0
              try clear c58b1
              try clear c60
              try clear c60b0
              try clear c60b1
              try clear hcz10_0
              try clear hcz10_1
              try clear hcz13_0
              try clear hcz13_1
              try clear hcz16_0
              try clear hcz16_1
              try clear hcz26_0
              try clear hcz26_1
              try clear hcz35_0
              try clear hcz35_1
              try clear hcz44_0
              try clear hcz44_1
              try clear hcz46_0
              try clear hcz46_1
              try clear hfz10_0
              try clear hfz10_1
              try clear hfz13_0
              try clear hfz13_1
              try clear hfz16_0
              try clear hfz16_1
              try clear hfz26_0
              try clear hfz26_1
              try clear hfz35_0
              try clear hfz35_1
              try clear hfz44_0
              try clear hfz44_1
              try clear hfz46_0
              try clear hfz46_1
              try clear hx684_0
              try clear hx685_0
              try clear hx686_0
              try clear p2
              try clear p684
              try clear p685
              try clear p686
              try clear q684
              try clear q685
              try clear q686
              obtain ⟨kq, x149_49, rfl, HA, HJ49, HO_4, HO_12, HO_664001, BK663, HB⟩ := hcut
              cases kq with
              | zero => exact absurd HA.out (by simp [laws_FnPrefixTraces.j5])
              | succ kj49 =>
               have H := HA.out
               clear HA
               simp only [laws_FnPrefixTraces.j5] at H
               by_cases c64 : x149_49 = true
               ·subst c64
                have H1 : (none) = some r := by rw [if_pos rfl] at H; exact H
                clear H
                have H := H1
                clear H1
                exact absurd H (by simp)
               replace c64 := Bool.eq_false_iff.mpr c64
               subst c64
               have H1 : (if 0 ≤ (IntKind.u64.wrap (x14_4)) then (if (Go.bits .and .i64 (shr .i64 t662 (IntKind.u64.wrap (x14_4))) 1) = 1 then (if (Go.bits .or .i64 t680 t662) = t662 then (laws_FnPrefixTraces.l0 kj49 t659 t662 t676 (wrap64 (x14_4 + 1)) t655 t656) else (none)) else (laws_FnPrefixTraces.l0 kj49 t659 t662 t676 (wrap64 (x14_4 + 1)) t655 t656)) else (none)) = some r := by rw [if_neg (show ¬ (false = true) by decide)] at H; exact H
               clear H
               have H := H1
               clear H1
               obtain ⟨ji65, hji65⟩ : ∃ j_ : Int, (IntKind.u64.wrap (x14_4)) = j_ := ⟨_, rfl⟩
               replace H : (if 0 ≤ (ji65) then (if (Go.bits .and .i64 (shr .i64 t662 (ji65)) 1) = 1 then (if (Go.bits .or .i64 t680 t662) = t662 then (laws_FnPrefixTraces.l0 kj49 t659 t662 t676 (wrap64 (x14_4 + 1)) t655 t656) else (none)) else (laws_FnPrefixTraces.l0 kj49 t659 t662 t676 (wrap64 (x14_4 + 1)) t655 t656)) else (none)) = some r := by first | (rw [hji65] at H; exact H) | (simp only [hji65] at H ⊢; exact H)
               by_cases c66 : 0 ≤ (ji65)
               ·rw [if_pos c66] at H
                have c66b0 := eq_true c66
                have c66b1 : decide (0 ≤ (ji65)) = true := decide_eq_true c66
                clear c66
                obtain ⟨ji67, hji67⟩ : ∃ j_ : Int, (shr .i64 t662 (ji65)) = j_ := ⟨_, rfl⟩
                replace H : (if (Go.bits .and .i64 (ji67) 1) = 1 then (if (Go.bits .or .i64 t680 t662) = t662 then (laws_FnPrefixTraces.l0 kj49 t659 t662 t676 (wrap64 (x14_4 + 1)) t655 t656) else (none)) else (laws_FnPrefixTraces.l0 kj49 t659 t662 t676 (wrap64 (x14_4 + 1)) t655 t656)) = some r := by first | (rw [hji67] at H; exact H) | (simp only [hji67] at H ⊢; exact H)
                have hji67_ : (t662 / 2 ^ min (ji65).toNat 64) = ji67 := hji67
                have hji67z : (ji65) ≤ 64 → (t662 / 2 ^ (ji65).toNat) = ji67 := shr_small hji67
                by_cases c68 : (Go.bits .and .i64 (ji67) 1) = 1
                ·rw [if_pos c68] at H
                 have c68b0 : ((Go.bits .and .i64 (ji67) 1) == 1) = true := beq_iff_eq.mpr c68
                 have c68b1 : ((Go.bits .and .i64 (ji67) 1) != 1) = false := bne_eq_false_iff_eq.mpr c68
                 clear c68
                 by_cases c69 : (Go.bits .or .i64 t680 t662) = t662
                 ·rw [if_pos c69] at H
                  have c69b0 : ((Go.bits .or .i64 t680 t662) == t662) = true := beq_iff_eq.mpr c69
                  have c69b1 : ((Go.bits .or .i64 t680 t662) != t662) = false := bne_eq_false_iff_eq.mpr c69
                  clear c69
                  have H' := zA H
                  clear H
                  go_wp2
                  go_roundg kj49
                  case measure => have := HJ6.out; have := HJ24.out; have := HJ33.out; have := HK4.out; have := HJ42.out; have := HJ49.out; omega
                  case rel => exact ⟨(wrap64 (x14_4 + 1)), (by first | rfl | (simp; done) | (simp [*]; done)), H', ⟨by have := HJ6.out; have := HJ24.out; have := HJ33.out; have := HK4.out; have := HJ42.out; have := HJ49.out; omega⟩, ⟨by (with_reducible repeat (first | apply zF | apply zG | apply zH)); exact HO_4.out⟩, ⟨by (with_reducible repeat (first | apply zF | apply zG | apply zH)); exact HO_12.out⟩, ⟨by (with_reducible repeat (first | apply zF | apply zG | apply zH)); exact HO_664001.out⟩, ⟨by (with_reducible repeat (first | refine zJ ?_ _ | refine zK ?_ | refine zI ?_ _)); exact BK663.out⟩, ⟨zT HB.out GE663.out⟩⟩
                 rw [if_neg c69] at H
                 exact absurd H (by simp)
                rw [if_neg c68] at H
                have c68b0 : ((Go.bits .and .i64 (ji67) 1) == 1) = false := beq_eq_false_iff_ne.mpr c68
                have c68b1 : ((Go.bits .and .i64 (ji67) 1) != 1) = true := bne_iff_ne.mpr c68
                have H' := zA H
                clear H
                go_wp2
                go_roundg kj49
                case measure => have := HJ6.out; have := HJ24.out; have := HJ33.out; have := HK4.out; have := HJ42.out; have := HJ49.out; omega
                case rel => exact ⟨(wrap64 (x14_4 + 1)), (by first | rfl | (simp; done) | (simp [*]; done)), H', ⟨by have := HJ6.out; have := HJ24.out; have := HJ33.out; have := HK4.out; have := HJ42.out; have := HJ49.out; omega⟩, ⟨by (with_reducible repeat (first | apply zF | apply zG | apply zH)); exact HO_4.out⟩, ⟨by (with_reducible repeat (first | apply zF | apply zG | apply zH)); exact HO_12.out⟩, ⟨by (with_reducible repeat (first | apply zF | apply zG | apply zH)); exact HO_664001.out⟩, ⟨by (with_reducible repeat (first | refine zJ ?_ _ | refine zK ?_ | refine zI ?_ _)); exact BK663.out⟩, ⟨zT HB.out GE663.out⟩⟩
               rw [if_neg c66] at H
               exact absurd H (by simp)
          rw [if_neg c40] at H
          have c40b0 : decide (x14_4 < (t659.length : Int)) = false := decide_eq_false c40
          clear c40
          obtain rfl := Option.some.inj H
          go_wp2
          go_ret
          exact ⟨zr, zT HB.out GE663.out⟩
   rw [if_neg c23] at H
   have c23b0 : (t667 == 0) = false := beq_eq_false_iff_ne.mpr c23
   have c23b1 : (t667 != 0) = true := bne_iff_ne.mpr c23
   obtain rfl := Option.some.inj H
   go_wp2
   go_ret
   exact ⟨zr, zT HB.out GE663.out⟩


end Go.Proofs.YtkiacoilecdepaaDoor.PAll
