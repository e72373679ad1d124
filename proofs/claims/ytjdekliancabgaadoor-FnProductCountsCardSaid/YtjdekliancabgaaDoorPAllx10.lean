-- Printed by a program of the session (wip/tools/pgen.py) out of the translation. Not trusted: Lean checks it.
import Derived.Test.YtjdekliancabgaaDoorPAllx0
import Derived.Test.YtjdekliancabgaaDoorPAllx1
import Derived.Test.YtjdekliancabgaaDoorPAllx7
import Derived.Test.YtjdekliancabgaaDoorPAllx8
import Derived.Test.YtjdekliancabgaaDoorPAllx9
namespace Go.Proofs.YtjdekliancabgaaDoor.PAll
open Go.RowKit Go.Proofs.YtjdekliancabgaaDoor.T Go.Proofs.YtjdekliancabgaaDoorW.PrintWords Go.Proofs.YtjdekliancabgaaDoorW.PrintLast Go.Proofs.YtjdekliancabgaaDoorW.PrintMore
attribute [local go_sem] max2_int min2_int max_two min_two max_three min_three max_four min_four   -- for this text's walks alone
set_option linter.unusedVariables false
set_option linter.unusedSimpArgs false

/-! ### laws_FnProductCounts: function 3 -/
mutual
def laws_FnProductCounts.j0 : Nat → Int → Bool → Int → List Int → Int → List Int → Int → List Int → Option (Bool)
 | 0, _, _, _, _, _, _, _, _ => none
 | k + 1, x6, x51, x512000, x512001, x513000, x513001, x519000, x519001 => if x51 = true then (none) else (if x6 = 0 then ((impl_FreeProduct.f k x512000 x512001 x513000 x513001).bind fun bt526 => ((impl_CliquePolynomial.f k x512000 x512001).bind fun bt532 => ((impl_CliquePolynomial.f k x513000 x513001).bind fun bt536 => ((impl_CliquePolynomial.f k x519000 x519001).bind fun bt540 => ((impl_CliquePolynomial.f k bt526.1 bt526.2.1).bind fun bt544 => (if bt526.2.2 = 0 then (if bt532.2 = 0 then (if bt536.2 = 0 then (if bt540.2 = 0 then (if bt544.2 = 0 then (laws_FnProductCounts.j1 k bt532.1 bt536.1 bt540.1 bt544.1 ((bt540.1.length : Int) != (wrap64 ((wrap64 ((bt532.1.length : Int) + (bt536.1.length : Int))) - 1)))) else (laws_FnProductCounts.j1 k bt532.1 bt536.1 bt540.1 bt544.1 true)) else (laws_FnProductCounts.j1 k bt532.1 bt536.1 bt540.1 bt544.1 true)) else (laws_FnProductCounts.j1 k bt532.1 bt536.1 bt540.1 bt544.1 true)) else (laws_FnProductCounts.j1 k bt532.1 bt536.1 bt540.1 bt544.1 true)) else (laws_FnProductCounts.j1 k bt532.1 bt536.1 bt540.1 bt544.1 true))))))) else (some true))
def laws_FnProductCounts.j1 : Nat → List Int → List Int → List Int → List Int → Bool → Option (Bool)
 | 0, _, _, _, _, _ => none
 | k + 1, x11, x13, x15, x17, x108 => if x108 = true then (none) else (laws_FnProductCounts.l0 k x11 x13 x15 x17 0)
def laws_FnProductCounts.l0 : Nat → List Int → List Int → List Int → List Int → Int → Option (Bool)
 | 0, _, _, _, _, _ => none
 | k + 1, x11, x13, x15, x17, x19 => if x19 < (x11.length : Int) then (laws_FnProductCounts.l1 k x11 x13 x15 x17 x19 0) else (laws_FnProductCounts.l2 k x11 x13 x15 x17 0)
def laws_FnProductCounts.l1 : Nat → List Int → List Int → List Int → List Int → Int → Int → Option (Bool)
 | 0, _, _, _, _, _, _ => none
 | k + 1, x11, x13, x15, x17, x19, x20 => if x20 < (x13.length : Int) then (if 0 ≤ (wrap64 (x19 + x20)) then (if (wrap64 (x19 + x20)) < (x15.length : Int) then (if 0 ≤ x19 then (if x19 < (x11.length : Int) then (if 0 ≤ x20 then (laws_FnProductCounts.l1 k x11 x13 (x15.set ((wrap64 (x19 + x20)) : Int).toNat (wrap64 ((rd x15 (wrap64 (x19 + x20))) - (wrap64 ((rd x11 x19) * (rd x13 x20)))))) x17 x19 (wrap64 (x20 + 1))) else (none)) else (none)) else (none)) else (none)) else (none)) else (laws_FnProductCounts.l0 k x11 x13 x15 x17 (wrap64 (x19 + 1)))
def laws_FnProductCounts.l2 : Nat → List Int → List Int → List Int → List Int → Int → Option (Bool)
 | 0, _, _, _, _, _ => none
 | k + 1, x11, x13, x15, x17, x21 => if x21 < (x15.length : Int) then (if 0 ≤ x21 then (if (rd x15 x21) = 0 then (laws_FnProductCounts.l2 k x11 x13 x15 x17 (wrap64 (x21 + 1))) else (none)) else (none)) else (laws_FnProductCounts.l3 k x11 x13 x17 0)
def laws_FnProductCounts.l3 : Nat → List Int → List Int → List Int → Int → Option (Bool)
 | 0, _, _, _, _ => none
 | k + 1, x11, x13, x17, x22 => if x22 < (x17.length : Int) then (laws_FnProductCounts.j6 k x11 x13 x17 x22 true) else (if x22 < (x11.length : Int) then (laws_FnProductCounts.j6 k x11 x13 x17 x22 true) else (laws_FnProductCounts.j6 k x11 x13 x17 x22 (decide (x22 < (x13.length : Int)))))
def laws_FnProductCounts.j6 : Nat → List Int → List Int → List Int → Int → Bool → Option (Bool)
 | 0, _, _, _, _, _ => none
 | k + 1, x11, x13, x17, x22, x168 => if x168 = true then (if x22 < (x17.length : Int) then (if 0 ≤ x22 then (laws_FnProductCounts.j7 k x11 x13 x17 x22 (rd x17 x22)) else (none)) else (laws_FnProductCounts.j7 k x11 x13 x17 x22 0)) else (some true)
def laws_FnProductCounts.j7 : Nat → List Int → List Int → List Int → Int → Int → Option (Bool)
 | 0, _, _, _, _, _ => none
 | k + 1, x11, x13, x17, x22, x23 => if x22 < (x11.length : Int) then (if 0 ≤ x22 then (laws_FnProductCounts.j8 k x11 x13 x17 x22 (wrap64 (x23 - (rd x11 x22)))) else (none)) else (laws_FnProductCounts.j8 k x11 x13 x17 x22 x23)
def laws_FnProductCounts.j8 : Nat → List Int → List Int → List Int → Int → Int → Option (Bool)
 | 0, _, _, _, _, _ => none
 | k + 1, x11, x13, x17, x22, x23 => if x22 < (x13.length : Int) then (if 0 ≤ x22 then (if x22 = 0 then (if (wrap64 (x23 - (rd x13 x22))) = (-1) then (if x22 > 0 then (if (wrap64 (x23 - (rd x13 x22))) = 0 then (laws_FnProductCounts.l3 k x11 x13 x17 (wrap64 (x22 + 1))) else (none)) else (laws_FnProductCounts.l3 k x11 x13 x17 (wrap64 (x22 + 1)))) else (none)) else (if x22 > 0 then (if (wrap64 (x23 - (rd x13 x22))) = 0 then (laws_FnProductCounts.l3 k x11 x13 x17 (wrap64 (x22 + 1))) else (none)) else (laws_FnProductCounts.l3 k x11 x13 x17 (wrap64 (x22 + 1))))) else (none)) else (if x22 = 0 then (if x23 = (-1) then (if x22 > 0 then (if x23 = 0 then (laws_FnProductCounts.l3 k x11 x13 x17 (wrap64 (x22 + 1))) else (none)) else (laws_FnProductCounts.l3 k x11 x13 x17 (wrap64 (x22 + 1)))) else (none)) else (if x22 > 0 then (if x23 = 0 then (laws_FnProductCounts.l3 k x11 x13 x17 (wrap64 (x22 + 1))) else (none)) else (laws_FnProductCounts.l3 k x11 x13 x17 (wrap64 (x22 + 1)))))
end
def laws_FnProductCounts.f (k : Nat) (l0 : List Int) : Option (Bool) := (laws_big.f l0).bind fun t502 => (if t502 = true then (some true) else ((spec_DrawDirectProduct.f k l0).bind fun bt503 => ((impl_DirectProduct.f k bt503.1 bt503.2.1 bt503.2.2.1 bt503.2.2.2).bind fun bt513 => ((spec_DirectProduct.f k bt503.1 bt503.2.1 bt503.2.2.1 bt503.2.2.2).bind fun bt519 => (if bt513.2.2 = bt519.2.2 then ((laws_likeAlphabet5.f k bt513.1 bt513.2.1 bt519.1 bt519.2.1).bind fun t525 => (laws_FnProductCounts.j0 k bt513.2.2 (!t525) bt503.1 bt503.2.1 bt503.2.2.1 bt503.2.2.2 bt513.1 bt513.2.1)) else (laws_FnProductCounts.j0 k bt513.2.2 true bt503.1 bt503.2.1 bt503.2.2.1 bt503.2.2.2 bt513.1 bt513.2.1))))))

def laws_FnProductCounts.T23 : Bool × List (List Nat × List Nat) := (true, [([], []), ([], []), ([], []), ([1, 2], [1, 2]), ([], []), ([], []), ([], []), ([5, 6], [5, 6]), ([4, 7], [4, 7]), ([8], [8]), ([], []), ([], []), ([10, 11], [10, 11]), ([12], [12]), ([], []), ([], []), ([14, 15], [14, 15]), ([16], [16]), ([13, 17], [13, 17]), ([9, 18], [9, 18]), ([0, 3, 0, 1, 2, 3, 4, 5, 6, 7, 8, 9, 10, 11, 12, 13, 14, 15, 16, 17, 18, 19], [0, 3]), ([20, 19, 0, 1, 2, 3, 4, 5, 6, 7, 8, 9, 10, 11, 12, 13, 14, 15, 16, 17, 18, 19], [19, 20])])
def laws_FnProductCounts.B23 : List Nat := [0, 0, 0, 6, 0, 0, 0, 96, 240, 496, 0, 0, 3072, 7168, 0, 0, 49152, 114688, 261120, 524272, 1048575, 2097151]
theorem laws_FnProductCounts.tab23 : rtab .any (opsOf Tryd.f3 23) = laws_FnProductCounts.T23 := by kernel_rfl
theorem laws_FnProductCounts.bits23 : waitsOk laws_FnProductCounts.T23.2 laws_FnProductCounts.B23 = true := by kernel_rfl
set_option maxHeartbeats 8000000 in
set_option maxRecDepth 100000 in
theorem laws_FnProductCounts.calls (k : Nat) (A0 : Option Addr) (c0 : Nat) (l0 : List Int) (r : Bool) (w : World) (hr0 : Kd.C (Kd.int .u8) w A0 l0.length l0) (hc0 : l0.length ≤ c0) (hT : TabW w) (h : laws_FnProductCounts.f k l0 = some r) :
  Calls Tryd.prog 3 #[.slice A0 l0.length c0] w fun e w' => e = .returned (.bool r) ∧ Below w.heap.size w w' := by
 have hu26 := Tryd.underlying26
 have HT := zA hT
 clear hT
 have HR0 := zA hr0
 have HC0 := zA hc0
 clear hr0 hc0
 have HB := zA (kW w.heap.size w)
 have H := h
 unfold laws_FnProductCounts.f at H
 clear h
 obtain ⟨t502, A2, H⟩ := zb H
 try dsimp only at H
 by_cases c3 : t502 = true
 ·subst c3
  rw [if_pos rfl] at H
  obtain rfl := Option.some.inj H
  go_enter Tryd.func3, Tryd.ntmps3
  go_wp2_with (first | (refine zO (some 25) Tryd.func5 #[.slice A0 l0.length c0] ?_; (with_reducible refine (laws_big.calls _ _ l0 true _ ?side1 ?side2 A2.out).mono ?_); (case side1 => exact zS HR0.out); (case side2 => exact HC0.out); rintro e w' ⟨rfl, ⟨nd, rfl⟩⟩; refine ⟨_, rfl, ?_⟩))
  go_ret
  exact ⟨zr, zQ HB.out⟩
 replace c3 := Bool.eq_false_iff.mpr c3
 subst c3
 rw [if_neg (show ¬ (false = true) by decide)] at H
 obtain ⟨⟨t503, t504, t507, t508⟩, A4, H⟩ := zb H
 try dsimp only at H
 obtain ⟨⟨t513, t514, t517⟩, A5, H⟩ := zb H
 try dsimp only at H
 obtain ⟨⟨t519, t520, t523⟩, A6, H⟩ := zb H
 try dsimp only at H
 have HC7 := zA H
 clear H
 go_enter Tryd.func3, Tryd.ntmps3
 go_upto_region 6 with (first | (refine zO (some 25) Tryd.func5 #[.slice A0 l0.length c0] ?_; (with_reducible refine (laws_big.calls _ _ l0 false _ ?side1 ?side2 A2.out).mono ?_); (case side1 => exact zS HR0.out); (case side2 => exact HC0.out); rintro e w' ⟨rfl, ⟨nd, rfl⟩⟩; refine ⟨_, rfl, ?_⟩) | (refine zO (some 28) Tryd.func6 #[.slice A0 l0.length c0] ?_; (with_reducible refine (spec_DrawDirectProduct.calls k _ _ l0 t503 t504 t507 t508 _ ?side1 ?side2 A4.out).mono ?_); (case side1 => exact zS HR0.out); (case side2 => exact HC0.out); rintro e w8 ⟨v505, v509, rfl, ho0, ho1, hb⟩; refine ⟨_, rfl, ?_⟩; have HO506 := zA (kI ho0 (kP (zQ HB.out))); have HO510 := zA (kI ho1 (kP (zQ HB.out))); replace HB := zA (kQ (zQ HB.out) hb); (try clear hb); (try clear ho0); (try clear ho1)) | (refine zBE 3 #[.int .i64 0, .slice none 0 0] 26 ?_; intro gb511 hg w9 hbox hb; replace HO506 := zA (kL (zP HO506.out) hb); replace HO510 := zA (kL (zP HO510.out) hb); have BK511 := zA (hbox); have GW511 := zA (zBH hg HB.out); have GE511 := zA (zBH hg HB.out); replace HB := zA (kQ (zQ HB.out) hb); clear hb hbox hg) | (refine zBE 4 #[.int .i64 0, .slice none 0 0] 26 ?_; intro gb512 hg w10 hbox hb; replace HO506 := zA (kL (zP HO506.out) hb); replace HO510 := zA (kL (zP HO510.out) hb); have BK512 := zA (hbox); have GW512 := zA (zB6 hg (kP (zT HB.out GE511.out)) : w.heap.size ≤ gb512); have GE512 := zA (zB6 hg (kP (zT HB.out GE511.out)) : w.heap.size ≤ gb512); replace HB := zA (kQ (zT HB.out GE511.out) hb); have NB511_512 := zA (zB4 hg BK511.out : gb511 ≠ gb512); have NB512_511 := zA (zB5 hg BK511.out : gb512 ≠ gb511); replace BK511 := zA (zB1 BK511.out hb); clear hb hbox hg; have hnb11 := NB511_512.out; have hnc11 := NB512_511.out; obtain ⟨hcz12_0, hcz12_1, hfz12_0, hfz12_1⟩ := zB3 BK511.out; obtain ⟨Ao13, co13, eo13⟩ := kM HO506.out; subst eo13; obtain ⟨hcz14_0, hcz14_1, hfz14_0, hfz14_1⟩ := zB3 BK512.out; obtain ⟨Ao15, co15, eo15⟩ := kM HO510.out; subst eo15) | (refine zO (some 34) Tryd.func7 #[.agg #[.int .i64 t503, .slice Ao13 t504.length co13], .agg #[.int .i64 t507, .slice Ao15 t508.length co15]] ?_; (with_reducible refine (impl_DirectProduct.calls k t503 _ _ t504 t507 _ _ t508 t513 t514 t517 _ ?side1 ?side2 ?side3 ?side4 ?side5 A5.out).mono ?_); (case side1 => refine (kB (e := 2) (base := w.heap.size) (ok := fun k_ => some k_ ≠ (.slice Ao15 t508.length co15 : Value).ownBlock) (n := t504.length) (c := co13) ?_).2.2; exact (by (with_reducible repeat (first | apply zF | apply zG | apply zH)); exact (kA (kA (kY (p := ⟨gb512, 1, none⟩) (kY (p := ⟨gb512, 0, none⟩) (kY (p := ⟨gb511, 1, none⟩) (kY (p := ⟨gb511, 0, none⟩) (kD (kD HO506.out BK511.out (by decide)) BK512.out (by decide)) (fun _ hk => hk.1.2) (.int .i64 t503)) (fun _ hk => hk.1.2) (.slice Ao13 t504.length co13)) (fun _ hk => hk.2) (.int .i64 t507)) (fun _ hk => hk.2) (.slice Ao15 t508.length co15)) (fun _ h_ => h_.1)) (fun _ h_ => h_.1)))); (case side2 => exact (kB HO506.out).2.1); (case side3 => refine (kB (e := 2) (base := w.heap.size) (ok := fun k_ => some k_ ≠ (.slice Ao13 t504.length co13 : Value).ownBlock) (n := t508.length) (c := co15) ?_).2.2; exact (by (with_reducible repeat (first | apply zF | apply zG | apply zH)); exact (kA (kA (kY (p := ⟨gb512, 1, none⟩) (kY (p := ⟨gb512, 0, none⟩) (kY (p := ⟨gb511, 1, none⟩) (kY (p := ⟨gb511, 0, none⟩) (kD (kD HO510.out BK511.out (by decide)) BK512.out (by decide)) (fun _ hk => hk.1.2) (.int .i64 t503)) (fun _ hk => hk.1.2) (.slice Ao13 t504.length co13)) (fun _ hk => hk.2) (.int .i64 t507)) (fun _ hk => hk.2) (.slice Ao15 t508.length co15)) (fun _ h_ => h_.1)) (fun _ h_ => h_.1)))); (case side4 => exact (kB HO510.out).2.1); (case side5 => exact TabW.below HT.out (zV HB.out GE511.out GE512.out)); rintro e w16 ⟨v515, rfl, ho0, hb⟩; refine ⟨_, rfl, ?_⟩; have HO516 := zA (kI (kF (kF ho0 (kH (by (with_reducible repeat (first | apply zF | apply zG | apply zH)); exact (kA (kA (kY (p := ⟨gb512, 1, none⟩) (kY (p := ⟨gb512, 0, none⟩) (kY (p := ⟨gb511, 1, none⟩) (kY (p := ⟨gb511, 0, none⟩) (kD (kD HO506.out BK511.out (by decide)) BK512.out (by decide)) (fun _ hk => hk.1.2) (.int .i64 t503)) (fun _ hk => hk.1.2) (.slice Ao13 t504.length co13)) (fun _ hk => hk.2) (.int .i64 t507)) (fun _ hk => hk.2) (.slice Ao15 t508.length co15)) (fun _ h_ => h_.1)) (fun _ h_ => h_.1))))) (kH (by (with_reducible repeat (first | apply zF | apply zG | apply zH)); exact (kA (kA (kY (p := ⟨gb512, 1, none⟩) (kY (p := ⟨gb512, 0, none⟩) (kY (p := ⟨gb511, 1, none⟩) (kY (p := ⟨gb511, 0, none⟩) (kD (kD HO510.out BK511.out (by decide)) BK512.out (by decide)) (fun _ hk => hk.1.2) (.int .i64 t503)) (fun _ hk => hk.1.2) (.slice Ao13 t504.length co13)) (fun _ hk => hk.2) (.int .i64 t507)) (fun _ hk => hk.2) (.slice Ao15 t508.length co15)) (fun _ h_ => h_.1)) (fun _ h_ => h_.1))))) (kP (zV HB.out GE511.out GE512.out))); replace HO506 := zA (kE (by (with_reducible repeat (first | apply zF | apply zG | apply zH)); exact (kA (kA (kY (p := ⟨gb512, 1, none⟩) (kY (p := ⟨gb512, 0, none⟩) (kY (p := ⟨gb511, 1, none⟩) (kY (p := ⟨gb511, 0, none⟩) (kD (kD HO506.out BK511.out (by decide)) BK512.out (by decide)) (fun _ hk => hk.1.2) (.int .i64 t503)) (fun _ hk => hk.1.2) (.slice Ao13 t504.length co13)) (fun _ hk => hk.2) (.int .i64 t507)) (fun _ hk => hk.2) (.slice Ao15 t508.length co15)) (fun _ h_ => h_.1)) (fun _ h_ => h_.1))) (kC ho0) hb); replace HO510 := zA (kE (by (with_reducible repeat (first | apply zF | apply zG | apply zH)); exact (kA (kA (kY (p := ⟨gb512, 1, none⟩) (kY (p := ⟨gb512, 0, none⟩) (kY (p := ⟨gb511, 1, none⟩) (kY (p := ⟨gb511, 0, none⟩) (kD (kD HO510.out BK511.out (by decide)) BK512.out (by decide)) (fun _ hk => hk.1.2) (.int .i64 t503)) (fun _ hk => hk.1.2) (.slice Ao13 t504.length co13)) (fun _ hk => hk.2) (.int .i64 t507)) (fun _ hk => hk.2) (.slice Ao15 t508.length co15)) (fun _ h_ => h_.1)) (fun _ h_ => h_.1))) (kC ho0) hb); replace BK511 := zA (blk_below (g := gb511) (o := .cells #[.int .i64 t503, .slice Ao13 t504.length co13] 26 (0, 0)) (by (with_reducible repeat (first | refine zJ ?_ _ | refine zK ?_ | refine zI ?_ _)); refine blk_far ?_ NB511_512.out _; (with_reducible repeat (first | refine zJ ?_ _ | refine zK ?_ | refine zI ?_ _)); refine blk_far ?_ NB511_512.out _; (with_reducible repeat (first | refine zJ ?_ _ | refine zK ?_ | refine zI ?_ _)); refine blk_put (cs := #[.int .i64 t503, .slice none 0 0]) ?_ 1 _ rfl; (with_reducible repeat (first | refine zJ ?_ _ | refine zK ?_ | refine zI ?_ _)); refine blk_put (cs := #[.int .i64 0, .slice none 0 0]) ?_ 0 _ rfl; (with_reducible repeat (first | refine zJ ?_ _ | refine zK ?_ | refine zI ?_ _)); exact BK511.out) hb); replace BK512 := zA (blk_below (g := gb512) (o := .cells #[.int .i64 t507, .slice Ao15 t508.length co15] 26 (0, 0)) (by (with_reducible repeat (first | refine zJ ?_ _ | refine zK ?_ | refine zI ?_ _)); refine blk_put (cs := #[.int .i64 t507, .slice none 0 0]) ?_ 1 _ rfl; (with_reducible repeat (first | refine zJ ?_ _ | refine zK ?_ | refine zI ?_ _)); refine blk_put (cs := #[.int .i64 0, .slice none 0 0]) ?_ 0 _ rfl; (with_reducible repeat (first | refine zJ ?_ _ | refine zK ?_ | refine zI ?_ _)); refine blk_far ?_ NB512_511.out _; (with_reducible repeat (first | refine zJ ?_ _ | refine zK ?_ | refine zI ?_ _)); refine blk_far ?_ NB512_511.out _; (with_reducible repeat (first | refine zJ ?_ _ | refine zK ?_ | refine zI ?_ _)); exact BK512.out) hb); replace HB := zA (kQ (zV HB.out GE511.out GE512.out) hb); (try clear hb); (try clear ho0)) | (refine zBE 5 #[.int .i64 0, .slice none 0 0] 26 ?_; intro gb518 hg w17 hbox hb; replace HO506 := zA (kL (zP HO506.out) hb); replace HO510 := zA (kL (zP HO510.out) hb); replace HO516 := zA (kL (zP HO516.out) hb); have BK518 := zA (hbox); have GW518 := zA (zB6 hg (kP (zV HB.out GE511.out GE512.out)) : w.heap.size ≤ gb518); have GE518 := zA (zB6 hg (kP (zV HB.out GE511.out GE512.out)) : w.heap.size ≤ gb518); replace HB := zA (kQ (zV HB.out GE511.out GE512.out) hb); have NB511_518 := zA (zB4 hg BK511.out : gb511 ≠ gb518); have NB518_511 := zA (zB5 hg BK511.out : gb518 ≠ gb511); replace BK511 := zA (zB1 BK511.out hb); have NB512_518 := zA (zB4 hg BK512.out : gb512 ≠ gb518); have NB518_512 := zA (zB5 hg BK512.out : gb518 ≠ gb512); replace BK512 := zA (zB1 BK512.out hb); clear hb hbox hg; have hnb18 := NB518_511.out; have hnc18 := NB511_518.out; have hnb19 := NB518_512.out; have hnc19 := NB512_518.out; obtain ⟨hcz20_0, hcz20_1, hfz20_0, hfz20_1⟩ := zB3 BK518.out; obtain ⟨Ao21, co21, eo21⟩ := kM HO516.out; subst eo21; obtain ⟨hcz22_0, hcz22_1, hfz22_0, hfz22_1⟩ := zB3 BK511.out; obtain ⟨hcz23_0, hcz23_1, hfz23_0, hfz23_1⟩ := zB3 BK512.out) | (refine zO (some 40) Tryd.func8 #[.agg #[.int .i64 t503, .slice Ao13 t504.length co13], .agg #[.int .i64 t507, .slice Ao15 t508.length co15]] ?_; (with_reducible refine (spec_DirectProduct.calls k t503 _ _ t504 t507 _ _ t508 t519 t520 t523 _ ?side1 ?side2 ?side3 ?side4 A6.out).mono ?_); (case side1 => refine (kB (e := 2) (base := w.heap.size) (ok := fun k_ => (some k_ ≠ (.slice Ao15 t508.length co15 : Value).ownBlock ∧ some k_ ≠ (.slice Ao21 t514.length co21 : Value).ownBlock)) (n := t504.length) (c := co13) ?_).2.2; exact (zP (zFG HO506.out BK518.out (.int .i64 t513) (.slice Ao21 t514.length co21)))); (case side2 => exact (kB HO506.out).2.1); (case side3 => refine (kB (e := 2) (base := w.heap.size) (ok := fun k_ => (some k_ ≠ (.slice Ao13 t504.length co13 : Value).ownBlock ∧ some k_ ≠ (.slice Ao21 t514.length co21 : Value).ownBlock)) (n := t508.length) (c := co15) ?_).2.2; exact (zP (zFG HO510.out BK518.out (.int .i64 t513) (.slice Ao21 t514.length co21)))); (case side4 => exact (kB HO510.out).2.1); rintro e w24 ⟨v521, rfl, ho0, hb⟩; refine ⟨_, rfl, ?_⟩; have HO522 := zA (kI (kF (kF (kF ho0 (kH (zP (zFG HO506.out BK518.out (.int .i64 t513) (.slice Ao21 t514.length co21))))) (kH (zP (zFG HO510.out BK518.out (.int .i64 t513) (.slice Ao21 t514.length co21))))) (kH (zP (zFG HO516.out BK518.out (.int .i64 t513) (.slice Ao21 t514.length co21))))) (kP (zW HB.out GE511.out GE512.out GE518.out))); replace HO506 := zA (kE (zP (zFG HO506.out BK518.out (.int .i64 t513) (.slice Ao21 t514.length co21))) (kC ho0) hb); replace HO510 := zA (kE (zP (zFG HO510.out BK518.out (.int .i64 t513) (.slice Ao21 t514.length co21))) (kC ho0) hb); replace HO516 := zA (kE (zP (zFG HO516.out BK518.out (.int .i64 t513) (.slice Ao21 t514.length co21))) (kC ho0) hb); replace BK511 := zA (blk_below (g := gb511) (o := .cells #[.int .i64 t503, .slice Ao13 t504.length co13] 26 (0, 0)) (zBG BK511.out NB511_518.out NB511_518.out) hb); replace BK512 := zA (blk_below (g := gb512) (o := .cells #[.int .i64 t507, .slice Ao15 t508.length co15] 26 (0, 0)) (zBG BK512.out NB512_518.out NB512_518.out) hb); replace BK518 := zA (blk_below (g := gb518) (o := .cells #[.int .i64 t513, .slice Ao21 t514.length co21] 26 (0, 0)) (zRP BK518.out) hb); replace HB := zA (kQ (zW HB.out GE511.out GE512.out GE518.out) hb); (try clear hb); (try clear ho0)) | (refine zBE 7 #[.int .i64 0, .slice none 0 0] 26 ?_; intro gb524 hg w25 hbox hb; replace HO506 := zA (kL (zP HO506.out) hb); replace HO510 := zA (kL (zP HO510.out) hb); replace HO516 := zA (kL (zP HO516.out) hb); replace HO522 := zA (kL (zP HO522.out) hb); have BK524 := zA (hbox); have GW524 := zA (zB6 hg (kP (zW HB.out GE511.out GE512.out GE518.out)) : w.heap.size ≤ gb524); have GE524 := zA (zB6 hg (kP (zW HB.out GE511.out GE512.out GE518.out)) : w.heap.size ≤ gb524); replace HB := zA (kQ (zW HB.out GE511.out GE512.out GE518.out) hb); have NB511_524 := zA (zB4 hg BK511.out : gb511 ≠ gb524); have NB524_511 := zA (zB5 hg BK511.out : gb524 ≠ gb511); replace BK511 := zA (zB1 BK511.out hb); have NB512_524 := zA (zB4 hg BK512.out : gb512 ≠ gb524); have NB524_512 := zA (zB5 hg BK512.out : gb524 ≠ gb512); replace BK512 := zA (zB1 BK512.out hb); have NB518_524 := zA (zB4 hg BK518.out : gb518 ≠ gb524); have NB524_518 := zA (zB5 hg BK518.out : gb524 ≠ gb518); replace BK518 := zA (zB1 BK518.out hb); clear hb hbox hg; have hnb26 := NB524_511.out; have hnc26 := NB511_524.out; have hnb27 := NB524_512.out; have hnc27 := NB512_524.out; have hnb28 := NB524_518.out; have hnc28 := NB518_524.out; obtain ⟨hcz29_0, hcz29_1, hfz29_0, hfz29_1⟩ := zB3 BK524.out; obtain ⟨Ao30, co30, eo30⟩ := kM HO522.out; subst eo30))
 (try simp only [Act.put, zL, zM, zN])
 go_cut [51] (fun v51 wc => ∃ (kq : Nat) (x51_6 : Bool), v51 = .bool x51_6 ∧ Aside0 (laws_FnProductCounts.j0 kq t517 x51_6 t503 t504 t507 t508 t513 t514 = some r) ∧ Aside0 (kq ≤ k) ∧ Aside0 (Kd.R (Kd.int .i64) 2 wc w.heap.size (fun k_ => some k_ ≠ ((.slice Ao15 t508.length co15) : Value).ownBlock ∧ some k_ ≠ ((.slice Ao21 t514.length co21) : Value).ownBlock ∧ some k_ ≠ ((.slice Ao30 t520.length co30) : Value).ownBlock) (.slice Ao13 t504.length co13) t504) ∧ Aside0 (Kd.R (Kd.int .i64) 2 wc w.heap.size (fun k_ => some k_ ≠ ((.slice Ao13 t504.length co13) : Value).ownBlock ∧ some k_ ≠ ((.slice Ao21 t514.length co21) : Value).ownBlock ∧ some k_ ≠ ((.slice Ao30 t520.length co30) : Value).ownBlock) (.slice Ao15 t508.length co15) t508) ∧ Aside0 (Kd.R (Kd.int .i64) 2 wc w.heap.size (fun k_ => some k_ ≠ ((.slice Ao13 t504.length co13) : Value).ownBlock ∧ some k_ ≠ ((.slice Ao15 t508.length co15) : Value).ownBlock ∧ some k_ ≠ ((.slice Ao30 t520.length co30) : Value).ownBlock) (.slice Ao21 t514.length co21) t514) ∧ Aside0 (Kd.R (Kd.int .i64) 2 wc w.heap.size (fun k_ => some k_ ≠ ((.slice Ao13 t504.length co13) : Value).ownBlock ∧ some k_ ≠ ((.slice Ao15 t508.length co15) : Value).ownBlock ∧ some k_ ≠ ((.slice Ao21 t514.length co21) : Value).ownBlock) (.slice Ao30 t520.length co30) t520) ∧ Aside0 (wc.heap[gb511]? = some (.cells #[.int .i64 t503, (.slice Ao13 t504.length co13)] 26 (0, 0))) ∧ Aside0 (wc.heap[gb512]? = some (.cells #[.int .i64 t507, (.slice Ao15 t508.length co15)] 26 (0, 0))) ∧ Aside0 (wc.heap[gb518]? = some (.cells #[.int .i64 t513, (.slice Ao21 t514.length co21)] 26 (0, 0))) ∧ Aside0 (wc.heap[gb524]? = some (.cells #[.int .i64 t519, (.slice Ao30 t520.length co30)] 26 (0, 0))) ∧ Aside0 (Below w.heap.size w wc))
 case first => as_aux_lemma =>
  have H := HC7.out
  clear HC7
  by_cases c31 : t517 = t523
  ·rw [if_pos c31] at H
   obtain ⟨c31b0, c31b1⟩ := zT1 c31
   clear c31
   (first | rw [c31b0] | (simp only [i64_w, i32_w]; rw [c31b0]) | skip)
   obtain ⟨t525, A32, H⟩ := zb H
   try dsimp only at H
   have H' := zA H
   clear H
   have hnb33 := NB518_511.out
   have hnc33 := NB511_518.out
   have hnb34 := NB518_512.out
   have hnc34 := NB512_518.out
   have hnb35 := NB518_524.out
   have hnc35 := NB524_518.out
   obtain ⟨hcz36_0, hcz36_1, hfz36_0, hfz36_1⟩ := zB3 BK518.out
   have hnb37 := NB524_511.out
   have hnc37 := NB511_524.out
   have hnb38 := NB524_512.out
   have hnc38 := NB512_524.out
   obtain ⟨hcz39_0, hcz39_1, hfz39_0, hfz39_1⟩ := zB3 BK524.out
   go_wp2_with (first | (go_at_call 9; (with_reducible refine (laws_likeAlphabet5.calls k t513 _ _ t514 t519 _ _ t520 t525 _ ?side1 ?side2 ?side3 ?side4 A32.out).mono ?_); (case side1 => refine (kB (e := 2) (base := w.heap.size) (ok := fun k_ => (((True ∧ some k_ ≠ (.slice Ao13 t504.length co13 : Value).ownBlock) ∧ some k_ ≠ (.slice Ao15 t508.length co15 : Value).ownBlock) ∧ some k_ ≠ (.slice Ao30 t520.length co30 : Value).ownBlock)) (n := t514.length) (c := co21) ?_).2.2; exact (zP (zFG HO516.out BK524.out (.int .i64 t519) (.slice Ao30 t520.length co30)))); (case side2 => exact (kB HO516.out).2.1); (case side3 => refine (kB (e := 2) (base := w.heap.size) (ok := fun k_ => (((True ∧ some k_ ≠ (.slice Ao13 t504.length co13 : Value).ownBlock) ∧ some k_ ≠ (.slice Ao15 t508.length co15 : Value).ownBlock) ∧ some k_ ≠ (.slice Ao21 t514.length co21 : Value).ownBlock)) (n := t520.length) (c := co30) ?_).2.2; exact (zP (zFG HO522.out BK524.out (.int .i64 t519) (.slice Ao30 t520.length co30)))); (case side4 => exact (kB HO522.out).2.1); rintro e w40 ⟨rfl, hb⟩; replace HO506 := zA (kL (zP (zFG HO506.out BK524.out (.int .i64 t519) (.slice Ao30 t520.length co30))) hb); replace HO510 := zA (kL (zP (zFG HO510.out BK524.out (.int .i64 t519) (.slice Ao30 t520.length co30))) hb); replace HO516 := zA (kL (zP (zFG HO516.out BK524.out (.int .i64 t519) (.slice Ao30 t520.length co30))) hb); replace HO522 := zA (kL (zP (zFG HO522.out BK524.out (.int .i64 t519) (.slice Ao30 t520.length co30))) hb); replace BK511 := zA (blk_below (g := gb511) (o := .cells #[.int .i64 t503, .slice Ao13 t504.length co13] 26 (0, 0)) (zBG BK511.out NB511_524.out NB511_524.out) hb); replace BK512 := zA (blk_below (g := gb512) (o := .cells #[.int .i64 t507, .slice Ao15 t508.length co15] 26 (0, 0)) (zBG BK512.out NB512_524.out NB512_524.out) hb); replace BK518 := zA (blk_below (g := gb518) (o := .cells #[.int .i64 t513, .slice Ao21 t514.length co21] 26 (0, 0)) (zBG BK518.out NB518_524.out NB518_524.out) hb); replace BK524 := zA (blk_below (g := gb524) (o := .cells #[.int .i64 t519, .slice Ao30 t520.length co30] 26 (0, 0)) (zRP BK524.out) hb); replace HB := zA (kQ (by repeat (first | (with_reducible first | exact HB.out | apply zB | apply zC | apply zD | refine zE ?_ GE511.out | refine zE ?_ GE512.out | refine zE ?_ GE518.out | refine zE ?_ GE524.out) | exact HB.out)) hb); (try clear hb)))
   go_meet
   case rel => exact ⟨_, (!t525), zs, H', ⟨by first | omega | exact Nat.le_refl _⟩, ⟨zPM HO506.out (fun _ hk => ⟨hk.1.1, ⟨hk.1.2, hk.2⟩⟩)⟩, ⟨zPM HO510.out (fun _ hk => ⟨hk.1.1, ⟨hk.1.2, hk.2⟩⟩)⟩, ⟨zPM HO516.out (fun _ hk => ⟨hk.1.1.2, ⟨hk.1.2, hk.2⟩⟩)⟩, ⟨zPM HO522.out (fun _ hk => ⟨hk.1.1.2, ⟨hk.1.2, hk.2⟩⟩)⟩, ⟨zR BK511.out⟩, ⟨zR BK512.out⟩, ⟨zR BK518.out⟩, ⟨zR BK524.out⟩, ⟨by repeat (first | (with_reducible first | exact HB.out | apply zB | apply zC | apply zD | refine zE ?_ GE511.out | refine zE ?_ GE512.out | refine zE ?_ GE518.out | refine zE ?_ GE524.out) | exact HB.out)⟩⟩
  rw [if_neg c31] at H
  obtain ⟨c31b0, c31b1⟩ := zT2 c31
  (first | rw [c31b0] | (simp only [i64_w, i32_w]; rw [c31b0]) | skip)
  have H' := zA H
  clear H
  go_wp2
  go_meet
  case rel => exact ⟨_, (true), zs, H', ⟨by first | omega | exact Nat.le_refl _⟩, ⟨by (with_reducible repeat (first | apply zF | apply zG | apply zH)); exact kA (kY (p := ⟨gb524, 1, none⟩) (kY (p := ⟨gb524, 0, none⟩) (kD HO506.out BK524.out (by decide)) (fun _ hk => hk.2) (.int .i64 t519)) (fun _ hk => hk.2) (.slice Ao30 t520.length co30)) (fun _ hk => ⟨hk.1.1.1, ⟨hk.1.1.2, hk.1.2⟩⟩)⟩, ⟨by (with_reducible repeat (first | apply zF | apply zG | apply zH)); exact kA (kY (p := ⟨gb524, 1, none⟩) (kY (p := ⟨gb524, 0, none⟩) (kD HO510.out BK524.out (by decide)) (fun _ hk => hk.2) (.int .i64 t519)) (fun _ hk => hk.2) (.slice Ao30 t520.length co30)) (fun _ hk => ⟨hk.1.1.1, ⟨hk.1.1.2, hk.1.2⟩⟩)⟩, ⟨by (with_reducible repeat (first | apply zF | apply zG | apply zH)); exact kA (kY (p := ⟨gb524, 1, none⟩) (kY (p := ⟨gb524, 0, none⟩) (kD HO516.out BK524.out (by decide)) (fun _ hk => hk.2) (.int .i64 t519)) (fun _ hk => hk.2) (.slice Ao30 t520.length co30)) (fun _ hk => ⟨hk.1.1.1.2, ⟨hk.1.1.2, hk.1.2⟩⟩)⟩, ⟨by (with_reducible repeat (first | apply zF | apply zG | apply zH)); exact kA (kY (p := ⟨gb524, 1, none⟩) (kY (p := ⟨gb524, 0, none⟩) (kD HO522.out BK524.out (by decide)) (fun _ hk => hk.2) (.int .i64 t519)) (fun _ hk => hk.2) (.slice Ao30 t520.length co30)) (fun _ hk => ⟨hk.1.1.1.2, ⟨hk.1.1.2, hk.1.2⟩⟩)⟩, ⟨by (with_reducible repeat (first | refine zJ ?_ _ | refine zK ?_ | refine zI ?_ _)); refine blk_far ?_ NB511_524.out _; (with_reducible repeat (first | refine zJ ?_ _ | refine zK ?_ | refine zI ?_ _)); refine blk_far ?_ NB511_524.out _; (with_reducible repeat (first | refine zJ ?_ _ | refine zK ?_ | refine zI ?_ _)); exact BK511.out⟩, ⟨by (with_reducible repeat (first | refine zJ ?_ _ | refine zK ?_ | refine zI ?_ _)); refine blk_far ?_ NB512_524.out _; (with_reducible repeat (first | refine zJ ?_ _ | refine zK ?_ | refine zI ?_ _)); refine blk_far ?_ NB512_524.out _; (with_reducible repeat (first | refine zJ ?_ _ | refine zK ?_ | refine zI ?_ _)); exact BK512.out⟩, ⟨by (with_reducible repeat (first | refine zJ ?_ _ | refine zK ?_ | refine zI ?_ _)); refine blk_far ?_ NB518_524.out _; (with_reducible repeat (first | refine zJ ?_ _ | refine zK ?_ | refine zI ?_ _)); refine blk_far ?_ NB518_524.out _; (with_reducible repeat (first | refine zJ ?_ _ | refine zK ?_ | refine zI ?_ _)); exact BK518.out⟩, ⟨by (with_reducible repeat (first | refine zJ ?_ _ | refine zK ?_ | refine zI ?_ _)); refine blk_put (cs := #[.int .i64 t519, .slice none 0 0]) ?_ 1 _ rfl; (with_reducible repeat (first | refine zJ ?_ _ | refine zK ?_ | refine zI ?_ _)); refine blk_put (cs := #[.int .i64 0, .slice none 0 0]) ?_ 0 _ rfl; (with_reducible repeat (first | refine zJ ?_ _ | refine zK ?_ | refine zI ?_ _)); exact BK524.out⟩, ⟨by repeat (first | (with_reducible first | exact HB.out | apply zB | apply zC | apply zD | refine zE ?_ GE511.out | refine zE ?_ GE512.out | refine zE ?_ GE518.out | refine zE ?_ GE524.out) | exact HB.out)⟩⟩
 case rest =>
  clear HC7
  try clear c1
  try clear c2
  try clear c3
  try clear c5
  try clear c6
  try clear c7
  try clear c8
  try clear c11
  try clear c18
  try clear c19
  try clear c26
  try clear c27
  try clear c28
  try clear c31
  try clear c33
  try clear c34
  try clear c35
  try clear c37
  try clear c38
  try clear hcz12_0
  try clear hcz12_1
  try clear hcz14_0
  try clear hcz14_1
  try clear hcz20_0
  try clear hcz20_1
  try clear hcz22_0
  try clear hcz22_1
  try clear hcz23_0
  try clear hcz23_1
  try clear hcz29_0
  try clear hcz29_1
  try clear hcz36_0
  try clear hcz36_1
  try clear hcz39_0
  try clear hcz39_1
  try clear hfz12_0
  try clear hfz12_1
  try clear hfz14_0
  try clear hfz14_1
  try clear hfz20_0
  try clear hfz20_1
  try clear hfz22_0
  try clear hfz22_1
  try clear hfz23_0
  try clear hfz23_1
  try clear hfz29_0
  try clear hfz29_1
  try clear hfz36_0
  try clear hfz36_1
  try clear hfz39_0
  try clear hfz39_1
  obtain ⟨kq, x51_6, rfl, HA, HJ6, HO_512001, HO_513001, HO_519001, HO_525001, BK511, BK512, BK518, BK524, HB⟩ := hcut
  cases kq with
  | zero => exact absurd HA.out (by simp [laws_FnProductCounts.j0])
  | succ kj6 =>
   have H := HA.out
   clear HA
   simp only [laws_FnProductCounts.j0] at H
   by_cases c41 : x51_6 = true
   ·subst c41
    rw [if_pos rfl] at H
    exact absurd H (by simp)
   replace c41 := Bool.eq_false_iff.mpr c41
   subst c41
   rw [if_neg (show ¬ (false = true) by decide)] at H
   by_cases c42 : t517 = 0
   ·rw [if_pos c42] at H
    obtain ⟨c42b0, c42b1⟩ := zT1 c42
    clear c42
    obtain ⟨⟨t526, t527, t530⟩, A43, H⟩ := zb H
    try dsimp only at H
    obtain ⟨⟨t532, t535⟩, A44, H⟩ := zb H
    try dsimp only at H
    obtain ⟨⟨t536, t539⟩, A45, H⟩ := zb H
    try dsimp only at H
    obtain ⟨⟨t540, t543⟩, A46, H⟩ := zb H
    try dsimp only at H
    obtain ⟨⟨t544, t547⟩, A47, H⟩ := zb H
    try dsimp only at H
    have HC48 := zA H
    clear H
    have hnb49 := NB511_512.out
    have hnc49 := NB512_511.out
    have hnb50 := NB511_518.out
    have hnc50 := NB518_511.out
    have hnb51 := NB511_524.out
    have hnc51 := NB524_511.out
    obtain ⟨hcz52_0, hcz52_1, hfz52_0, hfz52_1⟩ := zB3 BK511.out
    have hnb53 := NB512_518.out
    have hnc53 := NB518_512.out
    have hnb54 := NB512_524.out
    have hnc54 := NB524_512.out
    obtain ⟨hcz55_0, hcz55_1, hfz55_0, hfz55_1⟩ := zB3 BK512.out
    go_upto_region 15 with (first | (refine zO (some 57) Tryd.func10 #[.agg #[.int .i64 t503, .slice Ao13 t504.length co13], .agg #[.int .i64 t507, .slice Ao15 t508.length co15]] ?_; (with_reducible refine (impl_FreeProduct.calls kj6 t503 _ _ t504 t507 _ _ t508 t526 t527 t530 _ ?side1 ?side2 ?side3 ?side4 ?side5 A43.out).mono ?_); (case side1 => exact zS (kB HO_512001.out).2.2); (case side2 => exact (kB HO_512001.out).2.1); (case side3 => exact zS (kB HO_513001.out).2.2); (case side4 => exact (kB HO_513001.out).2.1); (case side5 => exact TabW.below HT.out (by repeat (first | (with_reducible first | exact HB.out | apply zB | apply zC | apply zD | refine zE ?_ GE511.out | refine zE ?_ GE512.out | refine zE ?_ GE518.out | refine zE ?_ GE524.out) | exact HB.out))); rintro e w56 ⟨v528, rfl, ho0, hb⟩; refine ⟨_, rfl, ?_⟩; have HO529 := zA (kI (kF (kF (kF (kF ho0 (kH (zP HO_512001.out))) (kH (zP HO_513001.out))) (kH (zP HO_519001.out))) (kH (zP HO_525001.out))) (kP (by repeat (first | (with_reducible first | exact HB.out | apply zB | apply zC | apply zD | refine zE ?_ GE511.out | refine zE ?_ GE512.out | refine zE ?_ GE518.out | refine zE ?_ GE524.out) | exact HB.out)))); replace HO_512001 := zA (kE (zP HO_512001.out) (kC ho0) hb); replace HO_513001 := zA (kE (zP HO_513001.out) (kC ho0) hb); replace HO_519001 := zA (kE (zP HO_519001.out) (kC ho0) hb); replace HO_525001 := zA (kE (zP HO_525001.out) (kC ho0) hb); replace BK511 := zA (zB1 BK511.out hb); replace BK512 := zA (zB1 BK512.out hb); replace BK518 := zA (zB1 BK518.out hb); replace BK524 := zA (zB1 BK524.out hb); replace HB := zA (kQ (by repeat (first | (with_reducible first | exact HB.out | apply zB | apply zC | apply zD | refine zE ?_ GE511.out | refine zE ?_ GE512.out | refine zE ?_ GE518.out | refine zE ?_ GE524.out) | exact HB.out)) hb); (try clear hb); (try clear ho0)) | (refine zBE 9 #[.int .i64 0, .slice none 0 0] 26 ?_; intro gb531 hg w57 hbox hb; replace HO_512001 := zA (kL (zP HO_512001.out) hb); replace HO_513001 := zA (kL (zP HO_513001.out) hb); replace HO_519001 := zA (kL (zP HO_519001.out) hb); replace HO_525001 := zA (kL (zP HO_525001.out) hb); replace HO529 := zA (kL (zP HO529.out) hb); have BK531 := zA (hbox); have GW531 := zA (zB6 hg (kP (by repeat (first | (with_reducible first | exact HB.out | apply zB | apply zC | apply zD | refine zE ?_ GE511.out | refine zE ?_ GE512.out | refine zE ?_ GE518.out | refine zE ?_ GE524.out) | exact HB.out))) : w.heap.size ≤ gb531); have GE531 := zA (zB6 hg (kP (by repeat (first | (with_reducible first | exact HB.out | apply zB | apply zC | apply zD | refine zE ?_ GE511.out | refine zE ?_ GE512.out | refine zE ?_ GE518.out | refine zE ?_ GE524.out) | exact HB.out))) : w.heap.size ≤ gb531); replace HB := zA (kQ (by repeat (first | (with_reducible first | exact HB.out | apply zB | apply zC | apply zD | refine zE ?_ GE511.out | refine zE ?_ GE512.out | refine zE ?_ GE518.out | refine zE ?_ GE524.out) | exact HB.out)) hb); have NB511_531 := zA (zB4 hg BK511.out : gb511 ≠ gb531); have NB531_511 := zA (zB5 hg BK511.out : gb531 ≠ gb511); replace BK511 := zA (zB1 BK511.out hb); have NB512_531 := zA (zB4 hg BK512.out : gb512 ≠ gb531); have NB531_512 := zA (zB5 hg BK512.out : gb531 ≠ gb512); replace BK512 := zA (zB1 BK512.out hb); have NB518_531 := zA (zB4 hg BK518.out : gb518 ≠ gb531); have NB531_518 := zA (zB5 hg BK518.out : gb531 ≠ gb518); replace BK518 := zA (zB1 BK518.out hb); have NB524_531 := zA (zB4 hg BK524.out : gb524 ≠ gb531); have NB531_524 := zA (zB5 hg BK524.out : gb531 ≠ gb524); replace BK524 := zA (zB1 BK524.out hb); clear hb hbox hg; have hnb58 := NB531_511.out; have hnc58 := NB511_531.out; have hnb59 := NB531_512.out; have hnc59 := NB512_531.out; have hnb60 := NB531_518.out; have hnc60 := NB518_531.out; have hnb61 := NB531_524.out; have hnc61 := NB524_531.out; obtain ⟨hcz62_0, hcz62_1, hfz62_0, hfz62_1⟩ := zB3 BK531.out; obtain ⟨Ao63, co63, eo63⟩ := kM HO529.out; subst eo63; obtain ⟨hcz64_0, hcz64_1, hfz64_0, hfz64_1⟩ := zB3 BK511.out) | (refine zO (some 62) Tryd.func11 #[.agg #[.int .i64 t503, .slice Ao13 t504.length co13]] ?_; (with_reducible refine (impl_CliquePolynomial.calls kj6 t503 _ _ t504 t532 t535 _ ?side1 ?side2 ?side3 A44.out).mono ?_); (case side1 => refine (kB (e := 2) (base := w.heap.size) (ok := fun k_ => ((some k_ ≠ (.slice Ao15 t508.length co15 : Value).ownBlock ∧ (some k_ ≠ (.slice Ao21 t514.length co21 : Value).ownBlock ∧ some k_ ≠ (.slice Ao30 t520.length co30 : Value).ownBlock)) ∧ some k_ ≠ (.slice Ao63 t527.length co63 : Value).ownBlock)) (n := t504.length) (c := co13) ?_).2.2; exact (zP (zFG HO_512001.out BK531.out (.int .i64 t526) (.slice Ao63 t527.length co63)))); (case side2 => exact (kB HO_512001.out).2.1); (case side3 => exact TabW.below HT.out (by repeat (first | (with_reducible first | exact HB.out | apply zB | apply zC | apply zD | refine zE ?_ GE511.out | refine zE ?_ GE512.out | refine zE ?_ GE518.out | refine zE ?_ GE524.out | refine zE ?_ GE531.out) | exact HB.out))); rintro e w65 ⟨v533, rfl, ho0, hb⟩; refine ⟨_, rfl, ?_⟩; have HO534 := zA (kI (kF (kF (kF (kF (kF ho0 (kH (zP (zFG HO_512001.out BK531.out (.int .i64 t526) (.slice Ao63 t527.length co63))))) (kH (zP (zFG HO_513001.out BK531.out (.int .i64 t526) (.slice Ao63 t527.length co63))))) (kH (zP (zFG HO_519001.out BK531.out (.int .i64 t526) (.slice Ao63 t527.length co63))))) (kH (zP (zFG HO_525001.out BK531.out (.int .i64 t526) (.slice Ao63 t527.length co63))))) (kH (zP (zFG HO529.out BK531.out (.int .i64 t526) (.slice Ao63 t527.length co63))))) (kP (by repeat (first | (with_reducible first | exact HB.out | apply zB | apply zC | apply zD | refine zE ?_ GE511.out | refine zE ?_ GE512.out | refine zE ?_ GE518.out | refine zE ?_ GE524.out | refine zE ?_ GE531.out) | exact HB.out)))); replace HO_512001 := zA (kE (zP (zFG HO_512001.out BK531.out (.int .i64 t526) (.slice Ao63 t527.length co63))) (kC ho0) hb); replace HO_513001 := zA (kE (zP (zFG HO_513001.out BK531.out (.int .i64 t526) (.slice Ao63 t527.length co63))) (kC ho0) hb); replace HO_519001 := zA (kE (zP (zFG HO_519001.out BK531.out (.int .i64 t526) (.slice Ao63 t527.length co63))) (kC ho0) hb); replace HO_525001 := zA (kE (zP (zFG HO_525001.out BK531.out (.int .i64 t526) (.slice Ao63 t527.length co63))) (kC ho0) hb); replace HO529 := zA (kE (zP (zFG HO529.out BK531.out (.int .i64 t526) (.slice Ao63 t527.length co63))) (kC ho0) hb); replace BK511 := zA (blk_below (g := gb511) (o := .cells #[.int .i64 t503, .slice Ao13 t504.length co13] 26 (0, 0)) (zBG BK511.out NB511_531.out NB511_531.out) hb); replace BK512 := zA (blk_below (g := gb512) (o := .cells #[.int .i64 t507, .slice Ao15 t508.length co15] 26 (0, 0)) (zBG BK512.out NB512_531.out NB512_531.out) hb); replace BK518 := zA (blk_below (g := gb518) (o := .cells #[.int .i64 t513, .slice Ao21 t514.length co21] 26 (0, 0)) (zBG BK518.out NB518_531.out NB518_531.out) hb); replace BK524 := zA (blk_below (g := gb524) (o := .cells #[.int .i64 t519, .slice Ao30 t520.length co30] 26 (0, 0)) (zBG BK524.out NB524_531.out NB524_531.out) hb); replace BK531 := zA (blk_below (g := gb531) (o := .cells #[.int .i64 t526, .slice Ao63 t527.length co63] 26 (0, 0)) (zRP BK531.out) hb); replace HB := zA (kQ (by repeat (first | (with_reducible first | exact HB.out | apply zB | apply zC | apply zD | refine zE ?_ GE511.out | refine zE ?_ GE512.out | refine zE ?_ GE518.out | refine zE ?_ GE524.out | refine zE ?_ GE531.out) | exact HB.out)) hb); (try clear hb); (try clear ho0); obtain ⟨hcz66_0, hcz66_1, hfz66_0, hfz66_1⟩ := zB3 BK512.out) | (refine zO (some 67) Tryd.func11 #[.agg #[.int .i64 t507, .slice Ao15 t508.length co15]] ?_; (with_reducible refine (impl_CliquePolynomial.calls kj6 t507 _ _ t508 t536 t539 _ ?side1 ?side2 ?side3 A45.out).mono ?_); (case side1 => exact zS (kB HO_513001.out).2.2); (case side2 => exact (kB HO_513001.out).2.1); (case side3 => exact TabW.below HT.out (by repeat (first | (with_reducible first | exact HB.out | apply zB | apply zC | apply zD | refine zE ?_ GE511.out | refine zE ?_ GE512.out | refine zE ?_ GE518.out | refine zE ?_ GE524.out | refine zE ?_ GE531.out) | exact HB.out))); rintro e w67 ⟨v537, rfl, ho0, hb⟩; refine ⟨_, rfl, ?_⟩; have HO538 := zA (kI (kF (kF (kF (kF (kF (kF ho0 (kH (zP HO_512001.out))) (kH (zP HO_513001.out))) (kH (zP HO_519001.out))) (kH (zP HO_525001.out))) (kH (zP HO529.out))) (kH (zP HO534.out))) (kP (by repeat (first | (with_reducible first | exact HB.out | apply zB | apply zC | apply zD | refine zE ?_ GE511.out | refine zE ?_ GE512.out | refine zE ?_ GE518.out | refine zE ?_ GE524.out | refine zE ?_ GE531.out) | exact HB.out)))); replace HO_512001 := zA (kE (zP HO_512001.out) (kC ho0) hb); replace HO_513001 := zA (kE (zP HO_513001.out) (kC ho0) hb); replace HO_519001 := zA (kE (zP HO_519001.out) (kC ho0) hb); replace HO_525001 := zA (kE (zP HO_525001.out) (kC ho0) hb); replace HO529 := zA (kE (zP HO529.out) (kC ho0) hb); replace HO534 := zA (kE (zP HO534.out) (kC ho0) hb); replace BK511 := zA (zB1 BK511.out hb); replace BK512 := zA (zB1 BK512.out hb); replace BK518 := zA (zB1 BK518.out hb); replace BK524 := zA (zB1 BK524.out hb); replace BK531 := zA (zB1 BK531.out hb); replace HB := zA (kQ (by repeat (first | (with_reducible first | exact HB.out | apply zB | apply zC | apply zD | refine zE ?_ GE511.out | refine zE ?_ GE512.out | refine zE ?_ GE518.out | refine zE ?_ GE524.out | refine zE ?_ GE531.out) | exact HB.out)) hb); (try clear hb); (try clear ho0); have hnb68 := NB518_524.out; have hnc68 := NB524_518.out; obtain ⟨hcz69_0, hcz69_1, hfz69_0, hfz69_1⟩ := zB3 BK518.out) | (refine zO (some 72) Tryd.func11 #[.agg #[.int .i64 t513, .slice Ao21 t514.length co21]] ?_; (with_reducible refine (impl_CliquePolynomial.calls kj6 t513 _ _ t514 t540 t543 _ ?side1 ?side2 ?side3 A46.out).mono ?_); (case side1 => exact zS (kB HO_519001.out).2.2); (case side2 => exact (kB HO_519001.out).2.1); (case side3 => exact TabW.below HT.out (by repeat (first | (with_reducible first | exact HB.out | apply zB | apply zC | apply zD | refine zE ?_ GE511.out | refine zE ?_ GE512.out | refine zE ?_ GE518.out | refine zE ?_ GE524.out | refine zE ?_ GE531.out) | exact HB.out))); rintro e w70 ⟨v541, rfl, ho0, hb⟩; refine ⟨_, rfl, ?_⟩; have HO542 := zA (kI (kF (kF (kF (kF (kF (kF (kF ho0 (kH (zP HO_512001.out))) (kH (zP HO_513001.out))) (kH (zP HO_519001.out))) (kH (zP HO_525001.out))) (kH (zP HO529.out))) (kH (zP HO534.out))) (kH (zP HO538.out))) (kP (by repeat (first | (with_reducible first | exact HB.out | apply zB | apply zC | apply zD | refine zE ?_ GE511.out | refine zE ?_ GE512.out | refine zE ?_ GE518.out | refine zE ?_ GE524.out | refine zE ?_ GE531.out) | exact HB.out)))); replace HO_512001 := zA (kE (zP HO_512001.out) (kC ho0) hb); replace HO_513001 := zA (kE (zP HO_513001.out) (kC ho0) hb); replace HO_519001 := zA (kE (zP HO_519001.out) (kC ho0) hb); replace HO_525001 := zA (kE (zP HO_525001.out) (kC ho0) hb); replace HO529 := zA (kE (zP HO529.out) (kC ho0) hb); replace HO534 := zA (kE (zP HO534.out) (kC ho0) hb); replace HO538 := zA (kE (zP HO538.out) (kC ho0) hb); replace BK511 := zA (zB1 BK511.out hb); replace BK512 := zA (zB1 BK512.out hb); replace BK518 := zA (zB1 BK518.out hb); replace BK524 := zA (zB1 BK524.out hb); replace BK531 := zA (zB1 BK531.out hb); replace HB := zA (kQ (by repeat (first | (with_reducible first | exact HB.out | apply zB | apply zC | apply zD | refine zE ?_ GE511.out | refine zE ?_ GE512.out | refine zE ?_ GE518.out | refine zE ?_ GE524.out | refine zE ?_ GE531.out) | exact HB.out)) hb); (try clear hb); (try clear ho0); obtain ⟨hcz71_0, hcz71_1, hfz71_0, hfz71_1⟩ := zB3 BK531.out) | (refine zO (some 77) Tryd.func11 #[.agg #[.int .i64 t526, .slice Ao63 t527.length co63]] ?_; (with_reducible refine (impl_CliquePolynomial.calls kj6 t526 _ _ t527 t544 t547 _ ?side1 ?side2 ?side3 A47.out).mono ?_); (case side1 => exact zS (kB HO529.out).2.2); (case side2 => exact (kB HO529.out).2.1); (case side3 => exact TabW.below HT.out (by repeat (first | (with_reducible first | exact HB.out | apply zB | apply zC | apply zD | refine zE ?_ GE511.out | refine zE ?_ GE512.out | refine zE ?_ GE518.out | refine zE ?_ GE524.out | refine zE ?_ GE531.out) | exact HB.out))); rintro e w72 ⟨v545, rfl, ho0, hb⟩; refine ⟨_, rfl, ?_⟩; have HO546 := zA (kI (kF (kF (kF (kF (kF (kF (kF (kF ho0 (kH (zP HO_512001.out))) (kH (zP HO_513001.out))) (kH (zP HO_519001.out))) (kH (zP HO_525001.out))) (kH (zP HO529.out))) (kH (zP HO534.out))) (kH (zP HO538.out))) (kH (zP HO542.out))) (kP (by repeat (first | (with_reducible first | exact HB.out | apply zB | apply zC | apply zD | refine zE ?_ GE511.out | refine zE ?_ GE512.out | refine zE ?_ GE518.out | refine zE ?_ GE524.out | refine zE ?_ GE531.out) | exact HB.out)))); replace HO_512001 := zA (kE (zP HO_512001.out) (kC ho0) hb); replace HO_513001 := zA (kE (zP HO_513001.out) (kC ho0) hb); replace HO_519001 := zA (kE (zP HO_519001.out) (kC ho0) hb); replace HO_525001 := zA (kE (zP HO_525001.out) (kC ho0) hb); replace HO529 := zA (kE (zP HO529.out) (kC ho0) hb); replace HO534 := zA (kE (zP HO534.out) (kC ho0) hb); replace HO538 := zA (kE (zP HO538.out) (kC ho0) hb); replace HO542 := zA (kE (zP HO542.out) (kC ho0) hb); replace BK511 := zA (zB1 BK511.out hb); replace BK512 := zA (zB1 BK512.out hb); replace BK518 := zA (zB1 BK518.out hb); replace BK524 := zA (zB1 BK524.out hb); replace BK531 := zA (zB1 BK531.out hb); replace HB := zA (kQ (by repeat (first | (with_reducible first | exact HB.out | apply zB | apply zC | apply zD | refine zE ?_ GE511.out | refine zE ?_ GE512.out | refine zE ?_ GE518.out | refine zE ?_ GE524.out | refine zE ?_ GE531.out) | exact HB.out)) hb); (try clear hb); (try clear ho0)))
    (try simp only [Act.put, zL, zM, zN])
    go_cut [108] (fun v108 wc => ∃ (kq : Nat) (x108_47 : Bool), v108 = .bool x108_47 ∧ Aside0 (laws_FnProductCounts.j1 kq t532 t536 t540 t544 x108_47 = some r) ∧ Aside0 (kq ≤ kj6) ∧ Aside0 (Kd.R (Kd.int .i64) 2 wc w.heap.size (fun k_ => some k_ ≠ (v537 : Value).ownBlock ∧ some k_ ≠ (v541 : Value).ownBlock ∧ some k_ ≠ (v545 : Value).ownBlock ∧ some k_ ≠ ((.slice Ao13 t504.length co13) : Value).ownBlock ∧ some k_ ≠ ((.slice Ao15 t508.length co15) : Value).ownBlock ∧ some k_ ≠ ((.slice Ao21 t514.length co21) : Value).ownBlock ∧ some k_ ≠ ((.slice Ao30 t520.length co30) : Value).ownBlock ∧ some k_ ≠ ((.slice Ao63 t527.length co63) : Value).ownBlock) v533 t532) ∧ Aside0 (Kd.R (Kd.int .i64) 2 wc w.heap.size (fun k_ => some k_ ≠ (v533 : Value).ownBlock ∧ some k_ ≠ (v541 : Value).ownBlock ∧ some k_ ≠ (v545 : Value).ownBlock ∧ some k_ ≠ ((.slice Ao13 t504.length co13) : Value).ownBlock ∧ some k_ ≠ ((.slice Ao15 t508.length co15) : Value).ownBlock ∧ some k_ ≠ ((.slice Ao21 t514.length co21) : Value).ownBlock ∧ some k_ ≠ ((.slice Ao30 t520.length co30) : Value).ownBlock ∧ some k_ ≠ ((.slice Ao63 t527.length co63) : Value).ownBlock) v537 t536) ∧ Aside0 (Kd.R (Kd.int .i64) 2 wc w.heap.size (fun k_ => some k_ ≠ (v533 : Value).ownBlock ∧ some k_ ≠ (v537 : Value).ownBlock ∧ some k_ ≠ (v545 : Value).ownBlock ∧ some k_ ≠ ((.slice Ao13 t504.length co13) : Value).ownBlock ∧ some k_ ≠ ((.slice Ao15 t508.length co15) : Value).ownBlock ∧ some k_ ≠ ((.slice Ao21 t514.length co21) : Value).ownBlock ∧ some k_ ≠ ((.slice Ao30 t520.length co30) : Value).ownBlock ∧ some k_ ≠ ((.slice Ao63 t527.length co63) : Value).ownBlock) v541 t540) ∧ Aside0 (Kd.R (Kd.int .i64) 2 wc w.heap.size (fun k_ => some k_ ≠ (v533 : Value).ownBlock ∧ some k_ ≠ (v537 : Value).ownBlock ∧ some k_ ≠ (v541 : Value).ownBlock ∧ some k_ ≠ ((.slice Ao13 t504.length co13) : Value).ownBlock ∧ some k_ ≠ ((.slice Ao15 t508.length co15) : Value).ownBlock ∧ some k_ ≠ ((.slice Ao21 t514.length co21) : Value).ownBlock ∧ some k_ ≠ ((.slice Ao30 t520.length co30) : Value).ownBlock ∧ some k_ ≠ ((.slice Ao63 t527.length co63) : Value).ownBlock) v545 t544) ∧ Aside0 (Kd.R (Kd.int .i64) 2 wc w.heap.size (fun k_ => some k_ ≠ (v533 : Value).ownBlock ∧ some k_ ≠ (v537 : Value).ownBlock ∧ some k_ ≠ (v541 : Value).ownBlock ∧ some k_ ≠ (v545 : Value).ownBlock ∧ some k_ ≠ ((.slice Ao15 t508.length co15) : Value).ownBlock ∧ some k_ ≠ ((.slice Ao21 t514.length co21) : Value).ownBlock ∧ some k_ ≠ ((.slice Ao30 t520.length co30) : Value).ownBlock ∧ some k_ ≠ ((.slice Ao63 t527.length co63) : Value).ownBlock) (.slice Ao13 t504.length co13) t504) ∧ Aside0 (Kd.R (Kd.int .i64) 2 wc w.heap.size (fun k_ => some k_ ≠ (v533 : Value).ownBlock ∧ some k_ ≠ (v537 : Value).ownBlock ∧ some k_ ≠ (v541 : Value).ownBlock ∧ some k_ ≠ (v545 : Value).ownBlock ∧ some k_ ≠ ((.slice Ao13 t504.length co13) : Value).ownBlock ∧ some k_ ≠ ((.slice Ao21 t514.length co21) : Value).ownBlock ∧ some k_ ≠ ((.slice Ao30 t520.length co30) : Value).ownBlock ∧ some k_ ≠ ((.slice Ao63 t527.length co63) : Value).ownBlock) (.slice Ao15 t508.length co15) t508) ∧ Aside0 (Kd.R (Kd.int .i64) 2 wc w.heap.size (fun k_ => some k_ ≠ (v533 : Value).ownBlock ∧ some k_ ≠ (v537 : Value).ownBlock ∧ some k_ ≠ (v541 : Value).ownBlock ∧ some k_ ≠ (v545 : Value).ownBlock ∧ some k_ ≠ ((.slice Ao13 t504.length co13) : Value).ownBlock ∧ some k_ ≠ ((.slice Ao15 t508.length co15) : Value).ownBlock ∧ some k_ ≠ ((.slice Ao30 t520.length co30) : Value).ownBlock ∧ some k_ ≠ ((.slice Ao63 t527.length co63) : Value).ownBlock) (.slice Ao21 t514.length co21) t514) ∧ Aside0 (Kd.R (Kd.int .i64) 2 wc w.heap.size (fun k_ => some k_ ≠ (v533 : Value).ownBlock ∧ some k_ ≠ (v537 : Value).ownBlock ∧ some k_ ≠ (v541 : Value).ownBlock ∧ some k_ ≠ (v545 : Value).ownBlock ∧ some k_ ≠ ((.slice Ao13 t504.length co13) : Value).ownBlock ∧ some k_ ≠ ((.slice Ao15 t508.length co15) : Value).ownBlock ∧ some k_ ≠ ((.slice Ao21 t514.length co21) : Value).ownBlock ∧ some k_ ≠ ((.slice Ao63 t527.length co63) : Value).ownBlock) (.slice Ao30 t520.length co30) t520) ∧ Aside0 (Kd.R (Kd.int .i64) 2 wc w.heap.size (fun k_ => some k_ ≠ (v533 : Value).ownBlock ∧ some k_ ≠ (v537 : Value).ownBlock ∧ some k_ ≠ (v541 : Value).ownBlock ∧ some k_ ≠ (v545 : Value).ownBlock ∧ some k_ ≠ ((.slice Ao13 t504.length co13) : Value).ownBlock ∧ some k_ ≠ ((.slice Ao15 t508.length co15) : Value).ownBlock ∧ some k_ ≠ ((.slice Ao21 t514.length co21) : Value).ownBlock ∧ some k_ ≠ ((.slice Ao30 t520.length co30) : Value).ownBlock) (.slice Ao63 t527.length co63) t527) ∧ Aside0 (wc.heap[gb511]? = some (.cells #[.int .i64 t503, (.slice Ao13 t504.length co13)] 26 (0, 0))) ∧ Aside0 (wc.heap[gb512]? = some (.cells #[.int .i64 t507, (.slice Ao15 t508.length co15)] 26 (0, 0))) ∧ Aside0 (wc.heap[gb518]? = some (.cells #[.int .i64 t513, (.slice Ao21 t514.length co21)] 26 (0, 0))) ∧ Aside0 (wc.heap[gb524]? = some (.cells #[.int .i64 t519, (.slice Ao30 t520.length co30)] 26 (0, 0))) ∧ Aside0 (wc.heap[gb531]? = some (.cells #[.int .i64 t526, (.slice Ao63 t527.length co63)] 26 (0, 0))) ∧ Aside0 (Below w.heap.size w wc))
    case first => as_aux_lemma =>
     have H := HC48.out
     clear HC48
     by_cases c73 : t530 = 0
     ·rw [if_pos c73] at H
      obtain ⟨c73b0, c73b1⟩ := zT1 c73
      clear c73
      (first | rw [c73b0] | (simp only [i64_w, i32_w]; rw [c73b0]) | skip)
      by_cases c74 : t535 = 0
      ·rw [if_pos c74] at H
       obtain ⟨c74b0, c74b1⟩ := zT1 c74
       clear c74
       by_cases c75 : t539 = 0
       ·rw [if_pos c75] at H
        obtain ⟨c75b0, c75b1⟩ := zT1 c75
        clear c75
        by_cases c76 : t543 = 0
        ·rw [if_pos c76] at H
         obtain ⟨c76b0, c76b1⟩ := zT1 c76
         clear c76
         by_cases c77 : t547 = 0
         ·rw [if_pos c77] at H
          obtain ⟨c77b0, c77b1⟩ := zT1 c77
          clear c77
          have H' := zA H
          clear H
          obtain ⟨Ao78, co78, eo78⟩ := kM HO542.out
          subst eo78
          obtain ⟨Ao79, co79, eo79⟩ := kM HO534.out
          subst eo79
          obtain ⟨Ao80, co80, eo80⟩ := kM HO538.out
          subst eo80
          go_wp2
          go_meet
          case rel => exact ⟨_, (((t540.length : Int) != (wrap64 ((wrap64 ((t532.length : Int) + (t536.length : Int))) - 1)))), zs, H', ⟨by have := HJ6.out; first | omega | exact Nat.le_refl _⟩, ⟨zPM HO534.out (fun _ hk => ⟨hk.1.1.2, ⟨hk.1.2, ⟨hk.2, ⟨hk.1.1.1.1.1.1.1.2, ⟨hk.1.1.1.1.1.1.2, ⟨hk.1.1.1.1.1.2, ⟨hk.1.1.1.1.2, hk.1.1.1.2⟩⟩⟩⟩⟩⟩⟩)⟩, ⟨zPM HO538.out (fun _ hk => ⟨hk.1.1.2, ⟨hk.1.2, ⟨hk.2, ⟨hk.1.1.1.1.1.1.1.2, ⟨hk.1.1.1.1.1.1.2, ⟨hk.1.1.1.1.1.2, ⟨hk.1.1.1.1.2, hk.1.1.1.2⟩⟩⟩⟩⟩⟩⟩)⟩, ⟨zPM HO542.out (fun _ hk => ⟨hk.1.1.2, ⟨hk.1.2, ⟨hk.2, ⟨hk.1.1.1.1.1.1.1.2, ⟨hk.1.1.1.1.1.1.2, ⟨hk.1.1.1.1.1.2, ⟨hk.1.1.1.1.2, hk.1.1.1.2⟩⟩⟩⟩⟩⟩⟩)⟩, ⟨zPM HO546.out (fun _ hk => ⟨hk.1.1.2, ⟨hk.1.2, ⟨hk.2, ⟨hk.1.1.1.1.1.1.1.2, ⟨hk.1.1.1.1.1.1.2, ⟨hk.1.1.1.1.1.2, ⟨hk.1.1.1.1.2, hk.1.1.1.2⟩⟩⟩⟩⟩⟩⟩)⟩, ⟨zPM HO_512001.out (fun _ hk => ⟨hk.1.1.1.2, ⟨hk.1.1.2, ⟨hk.1.2, ⟨hk.2, ⟨hk.1.1.1.1.1.1, ⟨hk.1.1.1.1.1.2.1, ⟨hk.1.1.1.1.1.2.2, hk.1.1.1.1.2⟩⟩⟩⟩⟩⟩⟩)⟩, ⟨zPM HO_513001.out (fun _ hk => ⟨hk.1.1.1.2, ⟨hk.1.1.2, ⟨hk.1.2, ⟨hk.2, ⟨hk.1.1.1.1.1.1, ⟨hk.1.1.1.1.1.2.1, ⟨hk.1.1.1.1.1.2.2, hk.1.1.1.1.2⟩⟩⟩⟩⟩⟩⟩)⟩, ⟨zPM HO_519001.out (fun _ hk => ⟨hk.1.1.1.2, ⟨hk.1.1.2, ⟨hk.1.2, ⟨hk.2, ⟨hk.1.1.1.1.1.1, ⟨hk.1.1.1.1.1.2.1, ⟨hk.1.1.1.1.1.2.2, hk.1.1.1.1.2⟩⟩⟩⟩⟩⟩⟩)⟩, ⟨zPM HO_525001.out (fun _ hk => ⟨hk.1.1.1.2, ⟨hk.1.1.2, ⟨hk.1.2, ⟨hk.2, ⟨hk.1.1.1.1.1.1, ⟨hk.1.1.1.1.1.2.1, ⟨hk.1.1.1.1.1.2.2, hk.1.1.1.1.2⟩⟩⟩⟩⟩⟩⟩)⟩, ⟨zPM HO529.out (fun _ hk => ⟨hk.1.1.1.2, ⟨hk.1.1.2, ⟨hk.1.2, ⟨hk.2, ⟨hk.1.1.1.1.1.1.1.2, ⟨hk.1.1.1.1.1.1.2, ⟨hk.1.1.1.1.1.2, hk.1.1.1.1.2⟩⟩⟩⟩⟩⟩⟩)⟩, ⟨zR BK511.out⟩, ⟨zR BK512.out⟩, ⟨zR BK518.out⟩, ⟨zR BK524.out⟩, ⟨zR BK531.out⟩, ⟨by repeat (first | (with_reducible first | exact HB.out | apply zB | apply zC | apply zD | refine zE ?_ GE511.out | refine zE ?_ GE512.out | refine zE ?_ GE518.out | refine zE ?_ GE524.out | refine zE ?_ GE531.out) | exact HB.out)⟩⟩
         rw [if_neg c77] at H
         obtain ⟨c77b0, c77b1⟩ := zT2 c77
         have H' := zA H
         clear H
         go_wp2
         go_meet
         case rel => exact ⟨_, (true), zs, H', ⟨by have := HJ6.out; first | omega | exact Nat.le_refl _⟩, ⟨zPM HO534.out (fun _ hk => ⟨hk.1.1.2, ⟨hk.1.2, ⟨hk.2, ⟨hk.1.1.1.1.1.1.1.2, ⟨hk.1.1.1.1.1.1.2, ⟨hk.1.1.1.1.1.2, ⟨hk.1.1.1.1.2, hk.1.1.1.2⟩⟩⟩⟩⟩⟩⟩)⟩, ⟨zPM HO538.out (fun _ hk => ⟨hk.1.1.2, ⟨hk.1.2, ⟨hk.2, ⟨hk.1.1.1.1.1.1.1.2, ⟨hk.1.1.1.1.1.1.2, ⟨hk.1.1.1.1.1.2, ⟨hk.1.1.1.1.2, hk.1.1.1.2⟩⟩⟩⟩⟩⟩⟩)⟩, ⟨zPM HO542.out (fun _ hk => ⟨hk.1.1.2, ⟨hk.1.2, ⟨hk.2, ⟨hk.1.1.1.1.1.1.1.2, ⟨hk.1.1.1.1.1.1.2, ⟨hk.1.1.1.1.1.2, ⟨hk.1.1.1.1.2, hk.1.1.1.2⟩⟩⟩⟩⟩⟩⟩)⟩, ⟨zPM HO546.out (fun _ hk => ⟨hk.1.1.2, ⟨hk.1.2, ⟨hk.2, ⟨hk.1.1.1.1.1.1.1.2, ⟨hk.1.1.1.1.1.1.2, ⟨hk.1.1.1.1.1.2, ⟨hk.1.1.1.1.2, hk.1.1.1.2⟩⟩⟩⟩⟩⟩⟩)⟩, ⟨zPM HO_512001.out (fun _ hk => ⟨hk.1.1.1.2, ⟨hk.1.1.2, ⟨hk.1.2, ⟨hk.2, ⟨hk.1.1.1.1.1.1, ⟨hk.1.1.1.1.1.2.1, ⟨hk.1.1.1.1.1.2.2, hk.1.1.1.1.2⟩⟩⟩⟩⟩⟩⟩)⟩, ⟨zPM HO_513001.out (fun _ hk => ⟨hk.1.1.1.2, ⟨hk.1.1.2, ⟨hk.1.2, ⟨hk.2, ⟨hk.1.1.1.1.1.1, ⟨hk.1.1.1.1.1.2.1, ⟨hk.1.1.1.1.1.2.2, hk.1.1.1.1.2⟩⟩⟩⟩⟩⟩⟩)⟩, ⟨zPM HO_519001.out (fun _ hk => ⟨hk.1.1.1.2, ⟨hk.1.1.2, ⟨hk.1.2, ⟨hk.2, ⟨hk.1.1.1.1.1.1, ⟨hk.1.1.1.1.1.2.1, ⟨hk.1.1.1.1.1.2.2, hk.1.1.1.1.2⟩⟩⟩⟩⟩⟩⟩)⟩, ⟨zPM HO_525001.out (fun _ hk => ⟨hk.1.1.1.2, ⟨hk.1.1.2, ⟨hk.1.2, ⟨hk.2, ⟨hk.1.1.1.1.1.1, ⟨hk.1.1.1.1.1.2.1, ⟨hk.1.1.1.1.1.2.2, hk.1.1.1.1.2⟩⟩⟩⟩⟩⟩⟩)⟩, ⟨zPM HO529.out (fun _ hk => ⟨hk.1.1.1.2, ⟨hk.1.1.2, ⟨hk.1.2, ⟨hk.2, ⟨hk.1.1.1.1.1.1.1.2, ⟨hk.1.1.1.1.1.1.2, ⟨hk.1.1.1.1.1.2, hk.1.1.1.1.2⟩⟩⟩⟩⟩⟩⟩)⟩, ⟨zR BK511.out⟩, ⟨zR BK512.out⟩, ⟨zR BK518.out⟩, ⟨zR BK524.out⟩, ⟨zR BK531.out⟩, ⟨by repeat (first | (with_reducible first | exact HB.out | apply zB | apply zC | apply zD | refine zE ?_ GE511.out | refine zE ?_ GE512.out | refine zE ?_ GE518.out | refine zE ?_ GE524.out | refine zE ?_ GE531.out) | exact HB.out)⟩⟩
        rw [if_neg c76] at H
        obtain ⟨c76b0, c76b1⟩ := zT2 c76
        have H' := zA H
        clear H
        go_wp2
        go_meet
        case rel => exact ⟨_, (true), zs, H', ⟨by have := HJ6.out; first | omega | exact Nat.le_refl _⟩, ⟨zPM HO534.out (fun _ hk => ⟨hk.1.1.2, ⟨hk.1.2, ⟨hk.2, ⟨hk.1.1.1.1.1.1.1.2, ⟨hk.1.1.1.1.1.1.2, ⟨hk.1.1.1.1.1.2, ⟨hk.1.1.1.1.2, hk.1.1.1.2⟩⟩⟩⟩⟩⟩⟩)⟩, ⟨zPM HO538.out (fun _ hk => ⟨hk.1.1.2, ⟨hk.1.2, ⟨hk.2, ⟨hk.1.1.1.1.1.1.1.2, ⟨hk.1.1.1.1.1.1.2, ⟨hk.1.1.1.1.1.2, ⟨hk.1.1.1.1.2, hk.1.1.1.2⟩⟩⟩⟩⟩⟩⟩)⟩, ⟨zPM HO542.out (fun _ hk => ⟨hk.1.1.2, ⟨hk.1.2, ⟨hk.2, ⟨hk.1.1.1.1.1.1.1.2, ⟨hk.1.1.1.1.1.1.2, ⟨hk.1.1.1.1.1.2, ⟨hk.1.1.1.1.2, hk.1.1.1.2⟩⟩⟩⟩⟩⟩⟩)⟩, ⟨zPM HO546.out (fun _ hk => ⟨hk.1.1.2, ⟨hk.1.2, ⟨hk.2, ⟨hk.1.1.1.1.1.1.1.2, ⟨hk.1.1.1.1.1.1.2, ⟨hk.1.1.1.1.1.2, ⟨hk.1.1.1.1.2, hk.1.1.1.2⟩⟩⟩⟩⟩⟩⟩)⟩, ⟨zPM HO_512001.out (fun _ hk => ⟨hk.1.1.1.2, ⟨hk.1.1.2, ⟨hk.1.2, ⟨hk.2, ⟨hk.1.1.1.1.1.1, ⟨hk.1.1.1.1.1.2.1, ⟨hk.1.1.1.1.1.2.2, hk.1.1.1.1.2⟩⟩⟩⟩⟩⟩⟩)⟩, ⟨zPM HO_513001.out (fun _ hk => ⟨hk.1.1.1.2, ⟨hk.1.1.2, ⟨hk.1.2, ⟨hk.2, ⟨hk.1.1.1.1.1.1, ⟨hk.1.1.1.1.1.2.1, ⟨hk.1.1.1.1.1.2.2, hk.1.1.1.1.2⟩⟩⟩⟩⟩⟩⟩)⟩, ⟨zPM HO_519001.out (fun _ hk => ⟨hk.1.1.1.2, ⟨hk.1.1.2, ⟨hk.1.2, ⟨hk.2, ⟨hk.1.1.1.1.1.1, ⟨hk.1.1.1.1.1.2.1, ⟨hk.1.1.1.1.1.2.2, hk.1.1.1.1.2⟩⟩⟩⟩⟩⟩⟩)⟩, ⟨zPM HO_525001.out (fun _ hk => ⟨hk.1.1.1.2, ⟨hk.1.1.2, ⟨hk.1.2, ⟨hk.2, ⟨hk.1.1.1.1.1.1, ⟨hk.1.1.1.1.1.2.1, ⟨hk.1.1.1.1.1.2.2, hk.1.1.1.1.2⟩⟩⟩⟩⟩⟩⟩)⟩, ⟨zPM HO529.out (fun _ hk => ⟨hk.1.1.1.2, ⟨hk.1.1.2, ⟨hk.1.2, ⟨hk.2, ⟨hk.1.1.1.1.1.1.1.2, ⟨hk.1.1.1.1.1.1.2, ⟨hk.1.1.1.1.1.2, hk.1.1.1.1.2⟩⟩⟩⟩⟩⟩⟩)⟩, ⟨zR BK511.out⟩, ⟨zR BK512.out⟩, ⟨zR BK518.out⟩, ⟨zR BK524.out⟩, ⟨zR BK531.out⟩, ⟨by repeat (first | (with_reducible first | exact HB.out | apply zB | apply zC | apply zD | refine zE ?_ GE511.out | refine zE ?_ GE512.out | refine zE ?_ GE518.out | refine zE ?_ GE524.out | refine zE ?_ GE531.out) | exact HB.out)⟩⟩
       rw [if_neg c75] at H
       obtain ⟨c75b0, c75b1⟩ := zT2 c75
       have H' := zA H
       clear H
       go_wp2
       go_meet
       case rel => exact ⟨_, (true), zs, H', ⟨by have := HJ6.out; first | omega | exact Nat.le_refl _⟩, ⟨zPM HO534.out (fun _ hk => ⟨hk.1.1.2, ⟨hk.1.2, ⟨hk.2, ⟨hk.1.1.1.1.1.1.1.2, ⟨hk.1.1.1.1.1.1.2, ⟨hk.1.1.1.1.1.2, ⟨hk.1.1.1.1.2, hk.1.1.1.2⟩⟩⟩⟩⟩⟩⟩)⟩, ⟨zPM HO538.out (fun _ hk => ⟨hk.1.1.2, ⟨hk.1.2, ⟨hk.2, ⟨hk.1.1.1.1.1.1.1.2, ⟨hk.1.1.1.1.1.1.2, ⟨hk.1.1.1.1.1.2, ⟨hk.1.1.1.1.2, hk.1.1.1.2⟩⟩⟩⟩⟩⟩⟩)⟩, ⟨zPM HO542.out (fun _ hk => ⟨hk.1.1.2, ⟨hk.1.2, ⟨hk.2, ⟨hk.1.1.1.1.1.1.1.2, ⟨hk.1.1.1.1.1.1.2, ⟨hk.1.1.1.1.1.2, ⟨hk.1.1.1.1.2, hk.1.1.1.2⟩⟩⟩⟩⟩⟩⟩)⟩, ⟨zPM HO546.out (fun _ hk => ⟨hk.1.1.2, ⟨hk.1.2, ⟨hk.2, ⟨hk.1.1.1.1.1.1.1.2, ⟨hk.1.1.1.1.1.1.2, ⟨hk.1.1.1.1.1.2, ⟨hk.1.1.1.1.2, hk.1.1.1.2⟩⟩⟩⟩⟩⟩⟩)⟩, ⟨zPM HO_512001.out (fun _ hk => ⟨hk.1.1.1.2, ⟨hk.1.1.2, ⟨hk.1.2, ⟨hk.2, ⟨hk.1.1.1.1.1.1, ⟨hk.1.1.1.1.1.2.1, ⟨hk.1.1.1.1.1.2.2, hk.1.1.1.1.2⟩⟩⟩⟩⟩⟩⟩)⟩, ⟨zPM HO_513001.out (fun _ hk => ⟨hk.1.1.1.2, ⟨hk.1.1.2, ⟨hk.1.2, ⟨hk.2, ⟨hk.1.1.1.1.1.1, ⟨hk.1.1.1.1.1.2.1, ⟨hk.1.1.1.1.1.2.2, hk.1.1.1.1.2⟩⟩⟩⟩⟩⟩⟩)⟩, ⟨zPM HO_519001.out (fun _ hk => ⟨hk.1.1.1.2, ⟨hk.1.1.2, ⟨hk.1.2, ⟨hk.2, ⟨hk.1.1.1.1.1.1, ⟨hk.1.1.1.1.1.2.1, ⟨hk.1.1.1.1.1.2.2, hk.1.1.1.1.2⟩⟩⟩⟩⟩⟩⟩)⟩, ⟨zPM HO_525001.out (fun _ hk => ⟨hk.1.1.1.2, ⟨hk.1.1.2, ⟨hk.1.2, ⟨hk.2, ⟨hk.1.1.1.1.1.1, ⟨hk.1.1.1.1.1.2.1, ⟨hk.1.1.1.1.1.2.2, hk.1.1.1.1.2⟩⟩⟩⟩⟩⟩⟩)⟩, ⟨zPM HO529.out (fun _ hk => ⟨hk.1.1.1.2, ⟨hk.1.1.2, ⟨hk.1.2, ⟨hk.2, ⟨hk.1.1.1.1.1.1.1.2, ⟨hk.1.1.1.1.1.1.2, ⟨hk.1.1.1.1.1.2, hk.1.1.1.1.2⟩⟩⟩⟩⟩⟩⟩)⟩, ⟨zR BK511.out⟩, ⟨zR BK512.out⟩, ⟨zR BK518.out⟩, ⟨zR BK524.out⟩, ⟨zR BK531.out⟩, ⟨by repeat (first | (with_reducible first | exact HB.out | apply zB | apply zC | apply zD | refine zE ?_ GE511.out | refine zE ?_ GE512.out | refine zE ?_ GE518.out | refine zE ?_ GE524.out | refine zE ?_ GE531.out) | exact HB.out)⟩⟩
      rw [if_neg c74] at H
      obtain ⟨c74b0, c74b1⟩ := zT2 c74
      have H' := zA H
      clear H
      go_wp2
      go_meet
      case rel => exact ⟨_, (true), zs, H', ⟨by have := HJ6.out; first | omega | exact Nat.le_refl _⟩, ⟨zPM HO534.out (fun _ hk => ⟨hk.1.1.2, ⟨hk.1.2, ⟨hk.2, ⟨hk.1.1.1.1.1.1.1.2, ⟨hk.1.1.1.1.1.1.2, ⟨hk.1.1.1.1.1.2, ⟨hk.1.1.1.1.2, hk.1.1.1.2⟩⟩⟩⟩⟩⟩⟩)⟩, ⟨zPM HO538.out (fun _ hk => ⟨hk.1.1.2, ⟨hk.1.2, ⟨hk.2, ⟨hk.1.1.1.1.1.1.1.2, ⟨hk.1.1.1.1.1.1.2, ⟨hk.1.1.1.1.1.2, ⟨hk.1.1.1.1.2, hk.1.1.1.2⟩⟩⟩⟩⟩⟩⟩)⟩, ⟨zPM HO542.out (fun _ hk => ⟨hk.1.1.2, ⟨hk.1.2, ⟨hk.2, ⟨hk.1.1.1.1.1.1.1.2, ⟨hk.1.1.1.1.1.1.2, ⟨hk.1.1.1.1.1.2, ⟨hk.1.1.1.1.2, hk.1.1.1.2⟩⟩⟩⟩⟩⟩⟩)⟩, ⟨zPM HO546.out (fun _ hk => ⟨hk.1.1.2, ⟨hk.1.2, ⟨hk.2, ⟨hk.1.1.1.1.1.1.1.2, ⟨hk.1.1.1.1.1.1.2, ⟨hk.1.1.1.1.1.2, ⟨hk.1.1.1.1.2, hk.1.1.1.2⟩⟩⟩⟩⟩⟩⟩)⟩, ⟨zPM HO_512001.out (fun _ hk => ⟨hk.1.1.1.2, ⟨hk.1.1.2, ⟨hk.1.2, ⟨hk.2, ⟨hk.1.1.1.1.1.1, ⟨hk.1.1.1.1.1.2.1, ⟨hk.1.1.1.1.1.2.2, hk.1.1.1.1.2⟩⟩⟩⟩⟩⟩⟩)⟩, ⟨zPM HO_513001.out (fun _ hk => ⟨hk.1.1.1.2, ⟨hk.1.1.2, ⟨hk.1.2, ⟨hk.2, ⟨hk.1.1.1.1.1.1, ⟨hk.1.1.1.1.1.2.1, ⟨hk.1.1.1.1.1.2.2, hk.1.1.1.1.2⟩⟩⟩⟩⟩⟩⟩)⟩, ⟨zPM HO_519001.out (fun _ hk => ⟨hk.1.1.1.2, ⟨hk.1.1.2, ⟨hk.1.2, ⟨hk.2, ⟨hk.1.1.1.1.1.1, ⟨hk.1.1.1.1.1.2.1, ⟨hk.1.1.1.1.1.2.2, hk.1.1.1.1.2⟩⟩⟩⟩⟩⟩⟩)⟩, ⟨zPM HO_525001.out (fun _ hk => ⟨hk.1.1.1.2, ⟨hk.1.1.2, ⟨hk.1.2, ⟨hk.2, ⟨hk.1.1.1.1.1.1, ⟨hk.1.1.1.1.1.2.1, ⟨hk.1.1.1.1.1.2.2, hk.1.1.1.1.2⟩⟩⟩⟩⟩⟩⟩)⟩, ⟨zPM HO529.out (fun _ hk => ⟨hk.1.1.1.2, ⟨hk.1.1.2, ⟨hk.1.2, ⟨hk.2, ⟨hk.1.1.1.1.1.1.1.2, ⟨hk.1.1.1.1.1.1.2, ⟨hk.1.1.1.1.1.2, hk.1.1.1.1.2⟩⟩⟩⟩⟩⟩⟩)⟩, ⟨zR BK511.out⟩, ⟨zR BK512.out⟩, ⟨zR BK518.out⟩, ⟨zR BK524.out⟩, ⟨zR BK531.out⟩, ⟨by repeat (first | (with_reducible first | exact HB.out | apply zB | apply zC | apply zD | refine zE ?_ GE511.out | refine zE ?_ GE512.out | refine zE ?_ GE518.out | refine zE ?_ GE524.out | refine zE ?_ GE531.out) | exact HB.out)⟩⟩
     rw [if_neg c73] at H
     obtain ⟨c73b0, c73b1⟩ := zT2 c73
     (first | rw [c73b0] | (simp only [i64_w, i32_w]; rw [c73b0]) | skip)
     have H' := zA H
     clear H
     go_wp2
     go_meet
     case rel => exact ⟨_, (true), zs, H', ⟨by have := HJ6.out; first | omega | exact Nat.le_refl _⟩, ⟨zPM HO534.out (fun _ hk => ⟨hk.1.1.2, ⟨hk.1.2, ⟨hk.2, ⟨hk.1.1.1.1.1.1.1.2, ⟨hk.1.1.1.1.1.1.2, ⟨hk.1.1.1.1.1.2, ⟨hk.1.1.1.1.2, hk.1.1.1.2⟩⟩⟩⟩⟩⟩⟩)⟩, ⟨zPM HO538.out (fun _ hk => ⟨hk.1.1.2, ⟨hk.1.2, ⟨hk.2, ⟨hk.1.1.1.1.1.1.1.2, ⟨hk.1.1.1.1.1.1.2, ⟨hk.1.1.1.1.1.2, ⟨hk.1.1.1.1.2, hk.1.1.1.2⟩⟩⟩⟩⟩⟩⟩)⟩, ⟨zPM HO542.out (fun _ hk => ⟨hk.1.1.2, ⟨hk.1.2, ⟨hk.2, ⟨hk.1.1.1.1.1.1.1.2, ⟨hk.1.1.1.1.1.1.2, ⟨hk.1.1.1.1.1.2, ⟨hk.1.1.1.1.2, hk.1.1.1.2⟩⟩⟩⟩⟩⟩⟩)⟩, ⟨zPM HO546.out (fun _ hk => ⟨hk.1.1.2, ⟨hk.1.2, ⟨hk.2, ⟨hk.1.1.1.1.1.1.1.2, ⟨hk.1.1.1.1.1.1.2, ⟨hk.1.1.1.1.1.2, ⟨hk.1.1.1.1.2, hk.1.1.1.2⟩⟩⟩⟩⟩⟩⟩)⟩, ⟨zPM HO_512001.out (fun _ hk => ⟨hk.1.1.1.2, ⟨hk.1.1.2, ⟨hk.1.2, ⟨hk.2, ⟨hk.1.1.1.1.1.1, ⟨hk.1.1.1.1.1.2.1, ⟨hk.1.1.1.1.1.2.2, hk.1.1.1.1.2⟩⟩⟩⟩⟩⟩⟩)⟩, ⟨zPM HO_513001.out (fun _ hk => ⟨hk.1.1.1.2, ⟨hk.1.1.2, ⟨hk.1.2, ⟨hk.2, ⟨hk.1.1.1.1.1.1, ⟨hk.1.1.1.1.1.2.1, ⟨hk.1.1.1.1.1.2.2, hk.1.1.1.1.2⟩⟩⟩⟩⟩⟩⟩)⟩, ⟨zPM HO_519001.out (fun _ hk => ⟨hk.1.1.1.2, ⟨hk.1.1.2, ⟨hk.1.2, ⟨hk.2, ⟨hk.1.1.1.1.1.1, ⟨hk.1.1.1.1.1.2.1, ⟨hk.1.1.1.1.1.2.2, hk.1.1.1.1.2⟩⟩⟩⟩⟩⟩⟩)⟩, ⟨zPM HO_525001.out (fun _ hk => ⟨hk.1.1.1.2, ⟨hk.1.1.2, ⟨hk.1.2, ⟨hk.2, ⟨hk.1.1.1.1.1.1, ⟨hk.1.1.1.1.1.2.1, ⟨hk.1.1.1.1.1.2.2, hk.1.1.1.1.2⟩⟩⟩⟩⟩⟩⟩)⟩, ⟨zPM HO529.out (fun _ hk => ⟨hk.1.1.1.2, ⟨hk.1.1.2, ⟨hk.1.2, ⟨hk.2, ⟨hk.1.1.1.1.1.1.1.2, ⟨hk.1.1.1.1.1.1.2, ⟨hk.1.1.1.1.1.2, hk.1.1.1.1.2⟩⟩⟩⟩⟩⟩⟩)⟩, ⟨zR BK511.out⟩, ⟨zR BK512.out⟩, ⟨zR BK518.out⟩, ⟨zR BK524.out⟩, ⟨zR BK531.out⟩, ⟨by repeat (first | (with_reducible first | exact HB.out | apply zB | apply zC | apply zD | refine zE ?_ GE511.out | refine zE ?_ GE512.out | refine zE ?_ GE518.out | refine zE ?_ GE524.out | refine zE ?_ GE531.out) | exact HB.out)⟩⟩
    case rest =>
     clear HC48
     try clear c1
     try clear c2
     try clear c3
     try clear c4
     try clear c5
     try clear c6
     try clear c7
     try clear c8
     try clear c10
     try clear c11
     try clear c18
     try clear c19
     try clear c26
     try clear c27
     try clear c28
     try clear c31
     try clear c33
     try clear c34
     try clear c35
     try clear c37
     try clear c38
     try clear c41
     try clear c42
     try clear c49
     try clear c50
     try clear c51
     try clear c53
     try clear c54
     try clear c58
     try clear c59
     try clear c60
     try clear c61
     try clear c68
     try clear c73
     try clear c74
     try clear c75
     try clear c76
     try clear c77
     try clear hcz12_0
     try clear hcz12_1
     try clear hcz14_0
     try clear hcz14_1
     try clear hcz20_0
     try clear hcz20_1
     try clear hcz22_0
     try clear hcz22_1
     try clear hcz23_0
     try clear hcz23_1
     try clear hcz29_0
     try clear hcz29_1
     try clear hcz36_0
     try clear hcz36_1
     try clear hcz39_0
     try clear hcz39_1
     try clear hcz52_0
     try clear hcz52_1
     try clear hcz55_0
     try clear hcz55_1
     try clear hcz62_0
     try clear hcz62_1
     try clear hcz64_0
     try clear hcz64_1
     try clear hcz66_0
     try clear hcz66_1
     try clear hcz69_0
     try clear hcz69_1
     try clear hcz71_0
     try clear hcz71_1
     try clear hfz12_0
     try clear hfz12_1
     try clear hfz14_0
     try clear hfz14_1
     try clear hfz20_0
     try clear hfz20_1
     try clear hfz22_0
     try clear hfz22_1
     try clear hfz23_0
     try clear hfz23_1
     try clear hfz29_0
     try clear hfz29_1
     try clear hfz36_0
     try clear hfz36_1
     try clear hfz39_0
     try clear hfz39_1
     try clear hfz52_0
     try clear hfz52_1
     try clear hfz55_0
     try clear hfz55_1
     try clear hfz62_0
     try clear hfz62_1
     try clear hfz64_0
     try clear hfz64_1
     try clear hfz66_0
     try clear hfz66_1
     try clear hfz69_0
     try clear hfz69_1
     try clear hfz71_0
     try clear hfz71_1
     obtain ⟨kq, x108_47, rfl, HA, HJ47, HO_11, HO_13, HO_15, HO_17, HO_512001, HO_513001, HO_519001, HO_525001, HO_532001, BK511, BK512, BK518, BK524, BK531, HB⟩ := hcut
     cases kq with
     | zero => exact absurd HA.out (by simp [laws_FnProductCounts.j1])
     | succ kj47 =>
      have H := HA.out
      clear HA
      simp only [laws_FnProductCounts.j1] at H
      by_cases c81 : x108_47 = true
      ·subst c81
       rw [if_pos rfl] at H
       exact absurd H (by simp)
      replace c81 := Bool.eq_false_iff.mpr c81
      subst c81
      rw [if_neg (show ¬ (false = true) by decide)] at H
      have H' := zA H
      clear H
      go_wp2
      go_loopg [19] kj47 (fun kq v19 w' => ∃ (x15_3 : List Int) (x19_3 : Int), v19 = .int .i64 x19_3 ∧ Aside0 (laws_FnProductCounts.l0 kq t532 t536 x15_3 t544 x19_3 = some r) ∧ Aside0 (kq ≤ kj47) ∧ Aside0 (Kd.R (Kd.int .i64) 2 w' w.heap.size (fun k_ => some k_ ≠ (v537 : Value).ownBlock ∧ some k_ ≠ (v541 : Value).ownBlock ∧ some k_ ≠ (v545 : Value).ownBlock ∧ some k_ ≠ ((.slice Ao13 t504.length co13) : Value).ownBlock ∧ some k_ ≠ ((.slice Ao15 t508.length co15) : Value).ownBlock ∧ some k_ ≠ ((.slice Ao21 t514.length co21) : Value).ownBlock ∧ some k_ ≠ ((.slice Ao30 t520.length co30) : Value).ownBlock ∧ some k_ ≠ ((.slice Ao63 t527.length co63) : Value).ownBlock) v533 t532) ∧ Aside0 (Kd.R (Kd.int .i64) 2 w' w.heap.size (fun k_ => some k_ ≠ (v533 : Value).ownBlock ∧ some k_ ≠ (v541 : Value).ownBlock ∧ some k_ ≠ (v545 : Value).ownBlock ∧ some k_ ≠ ((.slice Ao13 t504.length co13) : Value).ownBlock ∧ some k_ ≠ ((.slice Ao15 t508.length co15) : Value).ownBlock ∧ some k_ ≠ ((.slice Ao21 t514.length co21) : Value).ownBlock ∧ some k_ ≠ ((.slice Ao30 t520.length co30) : Value).ownBlock ∧ some k_ ≠ ((.slice Ao63 t527.length co63) : Value).ownBlock) v537 t536) ∧ Aside0 (Kd.R (Kd.int .i64) 2 w' w.heap.size (fun k_ => some k_ ≠ (v533 : Value).ownBlock ∧ some k_ ≠ (v537 : Value).ownBlock ∧ some k_ ≠ (v545 : Value).ownBlock ∧ some k_ ≠ ((.slice Ao13 t504.length co13) : Value).ownBlock ∧ some k_ ≠ ((.slice Ao15 t508.length co15) : Value).ownBlock ∧ some k_ ≠ ((.slice Ao21 t514.length co21) : Value).ownBlock ∧ some k_ ≠ ((.slice Ao30 t520.length co30) : Value).ownBlock ∧ some k_ ≠ ((.slice Ao63 t527.length co63) : Value).ownBlock) v541 x15_3) ∧ Aside0 (Kd.R (Kd.int .i64) 2 w' w.heap.size (fun k_ => some k_ ≠ (v533 : Value).ownBlock ∧ some k_ ≠ (v537 : Value).ownBlock ∧ some k_ ≠ (v541 : Value).ownBlock ∧ some k_ ≠ ((.slice Ao13 t504.length co13) : Value).ownBlock ∧ some k_ ≠ ((.slice Ao15 t508.length co15) : Value).ownBlock ∧ some k_ ≠ ((.slice Ao21 t514.length co21) : Value).ownBlock ∧ some k_ ≠ ((.slice Ao30 t520.length co30) : Value).ownBlock ∧ some k_ ≠ ((.slice Ao63 t527.length co63) : Value).ownBlock) v545 t544) ∧ Aside0 (Kd.R (Kd.int .i64) 2 w' w.heap.size (fun k_ => some k_ ≠ (v533 : Value).ownBlock ∧ some k_ ≠ (v537 : Value).ownBlock ∧ some k_ ≠ (v541 : Value).ownBlock ∧ some k_ ≠ (v545 : Value).ownBlock ∧ some k_ ≠ ((.slice Ao15 t508.length co15) : Value).ownBlock ∧ some k_ ≠ ((.slice Ao21 t514.length co21) : Value).ownBlock ∧ some k_ ≠ ((.slice Ao30 t520.length co30) : Value).ownBlock ∧ some k_ ≠ ((.slice Ao63 t527.length co63) : Value).ownBlock) (.slice Ao13 t504.length co13) t504) ∧ Aside0 (Kd.R (Kd.int .i64) 2 w' w.heap.size (fun k_ => some k_ ≠ (v533 : Value).ownBlock ∧ some k_ ≠ (v537 : Value).ownBlock ∧ some k_ ≠ (v541 : Value).ownBlock ∧ some k_ ≠ (v545 : Value).ownBlock ∧ some k_ ≠ ((.slice Ao13 t504.length co13) : Value).ownBlock ∧ some k_ ≠ ((.slice Ao21 t514.length co21) : Value).ownBlock ∧ some k_ ≠ ((.slice Ao30 t520.length co30) : Value).ownBlock ∧ some k_ ≠ ((.slice Ao63 t527.length co63) : Value).ownBlock) (.slice Ao15 t508.length co15) t508) ∧ Aside0 (Kd.R (Kd.int .i64) 2 w' w.heap.size (fun k_ => some k_ ≠ (v533 : Value).ownBlock ∧ some k_ ≠ (v537 : Value).ownBlock ∧ some k_ ≠ (v541 : Value).ownBlock ∧ some k_ ≠ (v545 : Value).ownBlock ∧ some k_ ≠ ((.slice Ao13 t504.length co13) : Value).ownBlock ∧ some k_ ≠ ((.slice Ao15 t508.length co15) : Value).ownBlock ∧ some k_ ≠ ((.slice Ao30 t520.length co30) : Value).ownBlock ∧ some k_ ≠ ((.slice Ao63 t527.length co63) : Value).ownBlock) (.slice Ao21 t514.length co21) t514) ∧ Aside0 (Kd.R (Kd.int .i64) 2 w' w.heap.size (fun k_ => some k_ ≠ (v533 : Value).ownBlock ∧ some k_ ≠ (v537 : Value).ownBlock ∧ some k_ ≠ (v541 : Value).ownBlock ∧ some k_ ≠ (v545 : Value).ownBlock ∧ some k_ ≠ ((.slice Ao13 t504.length co13) : Value).ownBlock ∧ some k_ ≠ ((.slice Ao15 t508.length co15) : Value).ownBlock ∧ some k_ ≠ ((.slice Ao21 t514.length co21) : Value).ownBlock ∧ some k_ ≠ ((.slice Ao63 t527.length co63) : Value).ownBlock) (.slice Ao30 t520.length co30) t520) ∧ Aside0 (Kd.R (Kd.int .i64) 2 w' w.heap.size (fun k_ => some k_ ≠ (v533 : Value).ownBlock ∧ some k_ ≠ (v537 : Value).ownBlock ∧ some k_ ≠ (v541 : Value).ownBlock ∧ some k_ ≠ (v545 : Value).ownBlock ∧ some k_ ≠ ((.slice Ao13 t504.length co13) : Value).ownBlock ∧ some k_ ≠ ((.slice Ao15 t508.length co15) : Value).ownBlock ∧ some k_ ≠ ((.slice Ao21 t514.length co21) : Value).ownBlock ∧ some k_ ≠ ((.slice Ao30 t520.length co30) : Value).ownBlock) (.slice Ao63 t527.length co63) t527) ∧ Aside0 (w'.heap[gb511]? = some (.cells #[.int .i64 t503, (.slice Ao13 t504.length co13)] 26 (0, 0))) ∧ Aside0 (w'.heap[gb512]? = some (.cells #[.int .i64 t507, (.slice Ao15 t508.length co15)] 26 (0, 0))) ∧ Aside0 (w'.heap[gb518]? = some (.cells #[.int .i64 t513, (.slice Ao21 t514.length co21)] 26 (0, 0))) ∧ Aside0 (w'.heap[gb524]? = some (.cells #[.int .i64 t519, (.slice Ao30 t520.length co30)] 26 (0, 0))) ∧ Aside0 (w'.heap[gb531]? = some (.cells #[.int .i64 t526, (.slice Ao63 t527.length co63)] 26 (0, 0))) ∧ Aside0 (Below w.heap.size w w'))
      case atStart => exact ⟨(t540), (0), zs, H', ⟨Nat.le_refl _⟩, ⟨zP HO_11.out⟩, ⟨zP HO_13.out⟩, ⟨zP HO_15.out⟩, ⟨zP HO_17.out⟩, ⟨zP HO_512001.out⟩, ⟨zP HO_513001.out⟩, ⟨zP HO_519001.out⟩, ⟨zP HO_525001.out⟩, ⟨zP HO_532001.out⟩, ⟨zR BK511.out⟩, ⟨zR BK512.out⟩, ⟨zR BK518.out⟩, ⟨zR BK524.out⟩, ⟨zR BK531.out⟩, ⟨by repeat (first | (with_reducible first | exact HB.out | apply zB | apply zC | apply zD | refine zE ?_ GE511.out | refine zE ?_ GE512.out | refine zE ?_ GE518.out | refine zE ?_ GE524.out | refine zE ?_ GE531.out) | exact HB.out)⟩⟩
      case round =>
       clear H'
       try clear c1
       try clear c2
       try clear c3
       try clear c4
       try clear c5
       try clear c6
       try clear c7
       try clear c8
       try clear c10
       try clear c11
       try clear c18
       try clear c19
       try clear c26
       try clear c27
       try clear c28
       try clear c31
       try clear c33
       try clear c34
       try clear c35
       try clear c37
       try clear c38
       try clear c41
       try clear c42
       try clear c49
       try clear c50
       try clear c51
       try clear c53
       try clear c54
       try clear c58
       try clear c59
       try clear c60
       try clear c61
       try clear c68
       try clear c73
       try clear c74
       try clear c75
       try clear c76
       try clear c77
       try clear c81
       try clear hcz12_0
       try clear hcz12_1
       try clear hcz14_0
       try clear hcz14_1
       try clear hcz20_0
       try clear hcz20_1
       try clear hcz22_0
       try clear hcz22_1
       try clear hcz23_0
       try clear hcz23_1
       try clear hcz29_0
       try clear hcz29_1
       try clear hcz36_0
       try clear hcz36_1
       try clear hcz39_0
       try clear hcz39_1
       try clear hcz52_0
       try clear hcz52_1
       try clear hcz55_0
       try clear hcz55_1
       try clear hcz62_0
       try clear hcz62_1
       try clear hcz64_0
       try clear hcz64_1
       try clear hcz66_0
       try clear hcz66_1
       try clear hcz69_0
       try clear hcz69_1
       try clear hcz71_0
       try clear hcz71_1
       try clear hfz12_0
       try clear hfz12_1
       try clear hfz14_0
       try clear hfz14_1
       try clear hfz20_0
       try clear hfz20_1
       try clear hfz22_0
       try clear hfz22_1
       try clear hfz23_0
       try clear hfz23_1
       try clear hfz29_0
       try clear hfz29_1
       try clear hfz36_0
       try clear hfz36_1
       try clear hfz39_0
       try clear hfz39_1
       try clear hfz52_0
       try clear hfz52_1
       try clear hfz55_0
       try clear hfz55_1
       try clear hfz62_0
       try clear hfz62_1
       try clear hfz64_0
       try clear hfz64_1
       try clear hfz66_0
       try clear hfz66_1
       try clear hfz69_0
       try clear hfz69_1
       try clear hfz71_0
       try clear hfz71_1
       obtain ⟨x15_3, x19_3, rfl, HA, HK3, HO_11, HO_13, HO_15, HO_17, HO_512001, HO_513001, HO_519001, HO_525001, HO_532001, BK511, BK512, BK518, BK524, BK531, HB⟩ := hrel
       cases gk with
       | zero => exact absurd HA.out (by simp [laws_FnProductCounts.l0])
       | succ k3 =>
        have H := HA.out
        clear HA
        simp only [laws_FnProductCounts.l0] at H
        by_cases c82 : x19_3 < (t532.length : Int)
        ·rw [if_pos c82] at H
         have c82b0 : decide (x19_3 < (t532.length : Int)) = true := decide_eq_true c82
         clear c82
         have H' := zA H
         clear H
         obtain ⟨Ao83, co83, eo83⟩ := kM HO_11.out
         subst eo83
         go_wp2
         go_loopg [20] k3 (fun kq v20 w' => ∃ (x15_4 : List Int) (x20_4 : Int), v20 = .int .i64 x20_4 ∧ Aside0 (laws_FnProductCounts.l1 kq t532 t536 x15_4 t544 x19_3 x20_4 = some r) ∧ Aside0 (kq ≤ k3) ∧ Aside0 (Kd.R (Kd.int .i64) 2 w' w.heap.size (fun k_ => some k_ ≠ (v537 : Value).ownBlock ∧ some k_ ≠ (v541 : Value).ownBlock ∧ some k_ ≠ (v545 : Value).ownBlock ∧ some k_ ≠ ((.slice Ao13 t504.length co13) : Value).ownBlock ∧ some k_ ≠ ((.slice Ao15 t508.length co15) : Value).ownBlock ∧ some k_ ≠ ((.slice Ao21 t514.length co21) : Value).ownBlock ∧ some k_ ≠ ((.slice Ao30 t520.length co30) : Value).ownBlock ∧ some k_ ≠ ((.slice Ao63 t527.length co63) : Value).ownBlock) (.slice Ao83 t532.length co83) t532) ∧ Aside0 (Kd.R (Kd.int .i64) 2 w' w.heap.size (fun k_ => some k_ ≠ ((.slice Ao83 t532.length co83) : Value).ownBlock ∧ some k_ ≠ (v541 : Value).ownBlock ∧ some k_ ≠ (v545 : Value).ownBlock ∧ some k_ ≠ ((.slice Ao13 t504.length co13) : Value).ownBlock ∧ some k_ ≠ ((.slice Ao15 t508.length co15) : Value).ownBlock ∧ some k_ ≠ ((.slice Ao21 t514.length co21) : Value).ownBlock ∧ some k_ ≠ ((.slice Ao30 t520.length co30) : Value).ownBlock ∧ some k_ ≠ ((.slice Ao63 t527.length co63) : Value).ownBlock) v537 t536) ∧ Aside0 (Kd.R (Kd.int .i64) 2 w' w.heap.size (fun k_ => some k_ ≠ ((.slice Ao83 t532.length co83) : Value).ownBlock ∧ some k_ ≠ (v537 : Value).ownBlock ∧ some k_ ≠ (v545 : Value).ownBlock ∧ some k_ ≠ ((.slice Ao13 t504.length co13) : Value).ownBlock ∧ some k_ ≠ ((.slice Ao15 t508.length co15) : Value).ownBlock ∧ some k_ ≠ ((.slice Ao21 t514.length co21) : Value).ownBlock ∧ some k_ ≠ ((.slice Ao30 t520.length co30) : Value).ownBlock ∧ some k_ ≠ ((.slice Ao63 t527.length co63) : Value).ownBlock) v541 x15_4) ∧ Aside0 (Kd.R (Kd.int .i64) 2 w' w.heap.size (fun k_ => some k_ ≠ ((.slice Ao83 t532.length co83) : Value).ownBlock ∧ some k_ ≠ (v537 : Value).ownBlock ∧ some k_ ≠ (v541 : Value).ownBlock ∧ some k_ ≠ ((.slice Ao13 t504.length co13) : Value).ownBlock ∧ some k_ ≠ ((.slice Ao15 t508.length co15) : Value).ownBlock ∧ some k_ ≠ ((.slice Ao21 t514.length co21) : Value).ownBlock ∧ some k_ ≠ ((.slice Ao30 t520.length co30) : Value).ownBlock ∧ some k_ ≠ ((.slice Ao63 t527.length co63) : Value).ownBlock) v545 t544) ∧ Aside0 (Kd.R (Kd.int .i64) 2 w' w.heap.size (fun k_ => some k_ ≠ ((.slice Ao83 t532.length co83) : Value).ownBlock ∧ some k_ ≠ (v537 : Value).ownBlock ∧ some k_ ≠ (v541 : Value).ownBlock ∧ some k_ ≠ (v545 : Value).ownBlock ∧ some k_ ≠ ((.slice Ao15 t508.length co15) : Value).ownBlock ∧ some k_ ≠ ((.slice Ao21 t514.length co21) : Value).ownBlock ∧ some k_ ≠ ((.slice Ao30 t520.length co30) : Value).ownBlock ∧ some k_ ≠ ((.slice Ao63 t527.length co63) : Value).ownBlock) (.slice Ao13 t504.length co13) t504) ∧ Aside0 (Kd.R (Kd.int .i64) 2 w' w.heap.size (fun k_ => some k_ ≠ ((.slice Ao83 t532.length co83) : Value).ownBlock ∧ some k_ ≠ (v537 : Value).ownBlock ∧ some k_ ≠ (v541 : Value).ownBlock ∧ some k_ ≠ (v545 : Value).ownBlock ∧ some k_ ≠ ((.slice Ao13 t504.length co13) : Value).ownBlock ∧ some k_ ≠ ((.slice Ao21 t514.length co21) : Value).ownBlock ∧ some k_ ≠ ((.slice Ao30 t520.length co30) : Value).ownBlock ∧ some k_ ≠ ((.slice Ao63 t527.length co63) : Value).ownBlock) (.slice Ao15 t508.length co15) t508) ∧ Aside0 (Kd.R (Kd.int .i64) 2 w' w.heap.size (fun k_ => some k_ ≠ ((.slice Ao83 t532.length co83) : Value).ownBlock ∧ some k_ ≠ (v537 : Value).ownBlock ∧ some k_ ≠ (v541 : Value).ownBlock ∧ some k_ ≠ (v545 : Value).ownBlock ∧ some k_ ≠ ((.slice Ao13 t504.length co13) : Value).ownBlock ∧ some k_ ≠ ((.slice Ao15 t508.length co15) : Value).ownBlock ∧ some k_ ≠ ((.slice Ao30 t520.length co30) : Value).ownBlock ∧ some k_ ≠ ((.slice Ao63 t527.length co63) : Value).ownBlock) (.slice Ao21 t514.length co21) t514) ∧ Aside0 (Kd.R (Kd.int .i64) 2 w' w.heap.size (fun k_ => some k_ ≠ ((.slice Ao83 t532.length co83) : Value).ownBlock ∧ some k_ ≠ (v537 : Value).ownBlock ∧ some k_ ≠ (v541 : Value).ownBlock ∧ some k_ ≠ (v545 : Value).ownBlock ∧ some k_ ≠ ((.slice Ao13 t504.length co13) : Value).ownBlock ∧ some k_ ≠ ((.slice Ao15 t508.length co15) : Value).ownBlock ∧ some k_ ≠ ((.slice Ao21 t514.length co21) : Value).ownBlock ∧ some k_ ≠ ((.slice Ao63 t527.length co63) : Value).ownBlock) (.slice Ao30 t520.length co30) t520) ∧ Aside0 (Kd.R (Kd.int .i64) 2 w' w.heap.size (fun k_ => some k_ ≠ ((.slice Ao83 t532.length co83) : Value).ownBlock ∧ some k_ ≠ (v537 : Value).ownBlock ∧ some k_ ≠ (v541 : Value).ownBlock ∧ some k_ ≠ (v545 : Value).ownBlock ∧ some k_ ≠ ((.slice Ao13 t504.length co13) : Value).ownBlock ∧ some k_ ≠ ((.slice Ao15 t508.length co15) : Value).ownBlock ∧ some k_ ≠ ((.slice Ao21 t514.length co21) : Value).ownBlock ∧ some k_ ≠ ((.slice Ao30 t520.length co30) : Value).ownBlock) (.slice Ao63 t527.length co63) t527) ∧ Aside0 (w'.heap[gb511]? = some (.cells #[.int .i64 t503, (.slice Ao13 t504.length co13)] 26 (0, 0))) ∧ Aside0 (w'.heap[gb512]? = some (.cells #[.int .i64 t507, (.slice Ao15 t508.length co15)] 26 (0, 0))) ∧ Aside0 (w'.heap[gb518]? = some (.cells #[.int .i64 t513, (.slice Ao21 t514.length co21)] 26 (0, 0))) ∧ Aside0 (w'.heap[gb524]? = some (.cells #[.int .i64 t519, (.slice Ao30 t520.length co30)] 26 (0, 0))) ∧ Aside0 (w'.heap[gb531]? = some (.cells #[.int .i64 t526, (.slice Ao63 t527.length co63)] 26 (0, 0))) ∧ Aside0 (Below w.heap.size w w'))
         case atStart => exact ⟨(x15_3), (0), zs, H', ⟨Nat.le_refl _⟩, ⟨zP HO_11.out⟩, ⟨zP HO_13.out⟩, ⟨zP HO_15.out⟩, ⟨zP HO_17.out⟩, ⟨zP HO_512001.out⟩, ⟨zP HO_513001.out⟩, ⟨zP HO_519001.out⟩, ⟨zP HO_525001.out⟩, ⟨zP HO_532001.out⟩, ⟨zR BK511.out⟩, ⟨zR BK512.out⟩, ⟨zR BK518.out⟩, ⟨zR BK524.out⟩, ⟨zR BK531.out⟩, ⟨by repeat (first | (with_reducible first | exact HB.out | apply zB | apply zC | apply zD | refine zE ?_ GE511.out | refine zE ?_ GE512.out | refine zE ?_ GE518.out | refine zE ?_ GE524.out | refine zE ?_ GE531.out) | exact HB.out)⟩⟩
         case round =>
          clear H'
          try clear c1
          try clear c2
          try clear c3
          try clear c4
          try clear c5
          try clear c6
          try clear c7
          try clear c8
          try clear c10
          try clear c11
          try clear c18
          try clear c19
          try clear c26
          try clear c27
          try clear c28
          try clear c31
          try clear c33
          try clear c34
          try clear c35
          try clear c37
          try clear c38
          try clear c41
          try clear c42
          try clear c49
          try clear c50
          try clear c51
          try clear c53
          try clear c54
          try clear c58
          try clear c59
          try clear c60
          try clear c61
          try clear c68
          try clear c73
          try clear c74
          try clear c75
          try clear c76
          try clear c77
          try clear c81
          try clear c82
          try clear hcz12_0
          try clear hcz12_1
          try clear hcz14_0
          try clear hcz14_1
          try clear hcz20_0
          try clear hcz20_1
          try clear hcz22_0
          try clear hcz22_1
          try clear hcz23_0
          try clear hcz23_1
          try clear hcz29_0
          try clear hcz29_1
          try clear hcz36_0
          try clear hcz36_1
          try clear hcz39_0
          try clear hcz39_1
          try clear hcz52_0
          try clear hcz52_1
          try clear hcz55_0
          try clear hcz55_1
          try clear hcz62_0
          try clear hcz62_1
          try clear hcz64_0
          try clear hcz64_1
          try clear hcz66_0
          try clear hcz66_1
          try clear hcz69_0
          try clear hcz69_1
          try clear hcz71_0
          try clear hcz71_1
          try clear hfz12_0
          try clear hfz12_1
          try clear hfz14_0
          try clear hfz14_1
          try clear hfz20_0
          try clear hfz20_1
          try clear hfz22_0
          try clear hfz22_1
          try clear hfz23_0
          try clear hfz23_1
          try clear hfz29_0
          try clear hfz29_1
          try clear hfz36_0
          try clear hfz36_1
          try clear hfz39_0
          try clear hfz39_1
          try clear hfz52_0
          try clear hfz52_1
          try clear hfz55_0
          try clear hfz55_1
          try clear hfz62_0
          try clear hfz62_1
          try clear hfz64_0
          try clear hfz64_1
          try clear hfz66_0
          try clear hfz66_1
          try clear hfz69_0
          try clear hfz69_1
          try clear hfz71_0
          try clear hfz71_1
          obtain ⟨x15_4, x20_4, rfl, HA, HK4, HO_11, HO_13, HO_15, HO_17, HO_512001, HO_513001, HO_519001, HO_525001, HO_532001, BK511, BK512, BK518, BK524, BK531, HB⟩ := hrel
          cases gk with
          | zero => exact absurd HA.out (by simp [laws_FnProductCounts.l1])
          | succ k4 =>
           have H := HA.out
           clear HA
           simp only [laws_FnProductCounts.l1] at H
           by_cases c84 : x20_4 < (t536.length : Int)
           ·rw [if_pos c84] at H
            have c84b0 : decide (x20_4 < (t536.length : Int)) = true := decide_eq_true c84
            clear c84
            obtain ⟨ji85, hji85⟩ : ∃ j_ : Int, (wrap64 (x19_3 + x20_4)) = j_ := ⟨_, rfl⟩
            replace H : (if 0 ≤ (ji85) then (if (ji85) < (x15_4.length : Int) then (if 0 ≤ x19_3 then (if x19_3 < (t532.length : Int) then (if 0 ≤ x20_4 then (laws_FnProductCounts.l1 k4 t532 t536 (x15_4.set ((ji85) : Int).toNat (wrap64 ((rd x15_4 (ji85)) - (wrap64 ((rd t532 x19_3) * (rd t536 x20_4)))))) t544 x19_3 (wrap64 (x20_4 + 1))) else (none)) else (none)) else (none)) else (none)) else (none)) = some r := by first | (rw [hji85] at H; exact H) | (simp only [hji85] at H ⊢; exact H)
            have hji85w : (IntKind.i64.wrap (x19_3 + x20_4)) = ji85 := (i64_w _).trans hji85
            by_cases c86 : 0 ≤ (ji85)
            ·rw [if_pos c86] at H
             have c86b0 : decide (0 ≤ (ji85)) = true := decide_eq_true c86
             clear c86
             by_cases c87 : (ji85) < (x15_4.length : Int)
             ·rw [if_pos c87] at H
              have c87b0 : decide ((ji85) < (x15_4.length : Int)) = true := decide_eq_true c87
              clear c87
              by_cases c88 : 0 ≤ x19_3
              ·rw [if_pos c88] at H
               have c88b0 : decide (0 ≤ x19_3) = true := decide_eq_true c88
               clear c88
               by_cases c89 : x19_3 < (t532.length : Int)
               ·rw [if_pos c89] at H
                have c89b0 : decide (x19_3 < (t532.length : Int)) = true := decide_eq_true c89
                clear c89
                by_cases c90 : 0 ≤ x20_4
                ·rw [if_pos c90] at H
                 have c90b0 : decide (0 ≤ x20_4) = true := decide_eq_true c90
                 clear c90
                 obtain ⟨y551, hy551⟩ : ∃ y_ : List Int, y_ = (x15_4.set ((ji85) : Int).toNat (wrap64 ((rd x15_4 (ji85)) - (wrap64 ((rd t532 x19_3) * (rd t536 x20_4)))))) := ⟨_, rfl⟩
                 replace H : (laws_FnProductCounts.l1 k4 t532 t536 y551 t544 x19_3 (wrap64 (x20_4 + 1))) = some r := zy hy551 H
                 have Ny551 := zA hy551
                 clear hy551
                 have H' := zA H
                 clear H
                 obtain ⟨Ao92, co92, eo92⟩ := kM HO_13.out
                 subst eo92
                 try go_wp2
                 replace HO_11 := zA (zH HO_11.out)
                 replace HO_13 := zA (zH HO_13.out)
                 replace HO_15 := zA (zH HO_15.out)
                 replace HO_17 := zA (zH HO_17.out)
                 replace HO_512001 := zA (zH HO_512001.out)
                 replace HO_513001 := zA (zH HO_513001.out)
                 replace HO_519001 := zA (zH HO_519001.out)
                 replace HO_525001 := zA (zH HO_525001.out)
                 replace HO_532001 := zA (zH HO_532001.out)
                 replace BK511 := zA (zK BK511.out)
                 replace BK512 := zA (zK BK512.out)
                 replace BK518 := zA (zK BK518.out)
                 replace BK524 := zA (zK BK524.out)
                 replace BK531 := zA (zK BK531.out)
                 replace HB := zA (zD HB.out)
                 obtain ⟨Ao94, co94, eo94⟩ := kM HO_15.out
                 (first | subst eo94 | (injection eo94 with f1_ f2_ f3_; have f4_ := f1_.symm; have f5_ := f3_.symm; clear f1_ f2_ f3_; subst f4_; subst f5_))
                 have p548 : 0 ≤ ((ji85) : Int) := zd
                 have q548 : (ji85) < (x15_4.length : Int) := zd
                 obtain ⟨ad548, e548, hx548_0⟩ := Kd.at_int (kB HO_15.out).2.2 (ji85) p548 q548
                 cases e548
                 replace p548 := eq_true p548
                 replace q548 := eq_true q548
                 have p549 : 0 ≤ (x19_3 : Int) := zd
                 have q549 : x19_3 < (t532.length : Int) := zd
                 obtain ⟨ad549, e549, hx549_0⟩ := Kd.at_int (kB HO_11.out).2.2 x19_3 p549 q549
                 cases e549
                 replace p549 := eq_true p549
                 replace q549 := eq_true q549
                 have p550 : 0 ≤ (x20_4 : Int) := zd
                 have q550 : x20_4 < (t536.length : Int) := zd
                 obtain ⟨ad550, e550, hx550_0⟩ := Kd.at_int (kB HO_13.out).2.2 x20_4 p550 q550
                 cases e550
                 replace p550 := eq_true p550
                 replace q550 := eq_true q550
                 have p91 : 0 ≤ ((ji85) : Int) := zd
                 have q91 : ((ji85) : Int) < ((x15_4.length : Int) : Int) := zd
                 obtain ⟨go91, co91, eo91, gb91, gl91, cl91, HG91⟩ := Kd.R_form HO_15.out (by omega)
                 (first | cases eo91 | (injection eo91 with ea_ en_ ec_; (first | subst ea_ | (injection ea_ with ea_; subst ea_)); subst ec_; clear en_))
                 have GB91 := zA gb91
                 have GG91 := zA HG91
                 clear gb91 gl91 HG91
                 (first | simp only [add_plain] at hx548_0 | skip)
                 obtain ⟨hx91_0, hf91_0⟩ := Kd.R_celln 0 HO_15.out ((ji85) : Int) p91 q91
                 replace p91 := eq_true p91
                 replace q91 := eq_true q91
                 have HP95 := Kd.R_putn HO_15.out ((ji85) : Int) (wrap64 ((rd x15_4 (ji85)) - (wrap64 ((rd t532 x19_3) * (rd t536 x20_4)))))
                 rw [← Ny551.out] at HP95
                 have HQ95 := zA HP95
                 clear HP95
                 refine start_ (n := 22) (S := fun w' => w'.cell? ⟨go91, ((ji85)).toNat, none⟩ = some (.int .i64 (rd x15_4 (ji85))) ∧ w'.cell? (ad549.add (x19_3).toNat) = some (.int .i64 (rd t532 x19_3)) ∧ w'.cell? (ad550.add (x20_4).toNat) = some (.int .i64 (rd t536 x20_4))) (ds := [21]) #[false, false, false, false, false, false, false, false, false, false, false, false, false, false, false, false, false, false, false, false, false, false] (by kernel_rfl) rfl rfl ⟨hx548_0, hx549_0, hx550_0⟩ (fun hHeld => ?_); refine with_tabW laws_FnProductCounts.tab23 laws_FnProductCounts.bits23 (fun HT_ HW_ => ?_)
                 generalize wr.drew = w93 at HO_11 HO_13 HO_15 HO_17 HO_512001 HO_513001 HO_519001 HO_525001 HO_532001 BK511 BK512 BK518 BK524 BK531 HB GG91 HQ95 hf91_0 hx548_0 hx549_0 hx550_0 hx91_0 hHeld ⊢
                 refine zp 0 (some 121) #[true, false, false, false, false, false, false, false, false, false, false, false, false, false, false, false, false, false, false, false, false, false] HT_.out ?_
                 refine zp 1 (some 122) #[true, true, false, false, false, false, false, false, false, false, false, false, false, false, false, false, false, false, false, false, false, false] HT_.out ?_
                 refine zp 2 (some 123) #[true, true, true, false, false, false, false, false, false, false, false, false, false, false, false, false, false, false, false, false, false, false] HT_.out ?_
                 refine zp 3 (some 124) #[true, true, true, true, false, false, false, false, false, false, false, false, false, false, false, false, false, false, false, false, false, false] HT_.out ?_
                 refine zp 4 (some 125) #[true, true, true, true, true, false, false, false, false, false, false, false, false, false, false, false, false, false, false, false, false, false] HT_.out ?_
                 refine zp 5 (some 126) #[true, true, true, true, true, true, false, false, false, false, false, false, false, false, false, false, false, false, false, false, false, false] HT_.out ?_
                 refine zp 6 (some 127) #[true, true, true, true, true, true, true, false, false, false, false, false, false, false, false, false, false, false, false, false, false, false] HT_.out ?_
                 refine zp 7 (some 128) #[true, true, true, true, true, true, true, true, false, false, false, false, false, false, false, false, false, false, false, false, false, false] HT_.out ?_
                 refine zp 8 (some 129) #[true, true, true, true, true, true, true, true, true, false, false, false, false, false, false, false, false, false, false, false, false, false] HT_.out ?_
                 refine zp 10 (some 131) #[true, true, true, true, true, true, true, true, true, false, true, false, false, false, false, false, false, false, false, false, false, false] HT_.out ?_
                 refine zp 11 (some 132) #[true, true, true, true, true, true, true, true, true, false, true, true, false, false, false, false, false, false, false, false, false, false] HT_.out ?_
                 refine zp 12 (some 133) #[true, true, true, true, true, true, true, true, true, false, true, true, true, false, false, false, false, false, false, false, false, false] HT_.out ?_
                 refine zp 14 (some 135) #[true, true, true, true, true, true, true, true, true, false, true, true, true, false, true, false, false, false, false, false, false, false] HT_.out ?_
                 refine zp 15 (some 136) #[true, true, true, true, true, true, true, true, true, false, true, true, true, false, true, true, false, false, false, false, false, false] HT_.out ?_
                 refine zp 16 (some 137) #[true, true, true, true, true, true, true, true, true, false, true, true, true, false, true, true, true, false, false, false, false, false] HT_.out ?_
                 refine ze 9 (some 130) #[true, true, true, true, true, true, true, true, true, true, true, true, true, false, true, true, true, false, false, false, false, false] HT_.out HW_.out hHeld ?_
                 refine ze 13 (some 134) #[true, true, true, true, true, true, true, true, true, true, true, true, true, true, true, true, true, false, false, false, false, false] HT_.out HW_.out hHeld ?_
                 refine ze 17 (some 138) #[true, true, true, true, true, true, true, true, true, true, true, true, true, true, true, true, true, true, false, false, false, false] HT_.out HW_.out hHeld ?_
                 refine zp 18 (some 139) #[true, true, true, true, true, true, true, true, true, true, true, true, true, true, true, true, true, true, true, false, false, false] HT_.out ?_
                 refine zp 19 (some 140) #[true, true, true, true, true, true, true, true, true, true, true, true, true, true, true, true, true, true, true, true, false, false] HT_.out ?_
                 refine zp 20 (some 141) #[true, true, true, true, true, true, true, true, true, true, true, true, true, true, true, true, true, true, true, true, true, false] HT_.out ?_
                 refine last_ (i := 21) (N := none) #[true, true, true, true, true, true, true, true, true, true, true, true, true, true, true, true, true, true, true, true, true, true] rfl rfl (one_of HT_.out (by kernel_rfl)) (by decide) (fun K hK => ?_)
                 refine skip_ (w1 := ?_) (by rfl) rfl ?_ ?_
                 rotate_left
                 ·go_simp
                  rfl
                 refine hK.out _ _ ?_
                 clear hK K
                 refine done_ (done_of HT_.out (by kernel_rfl)) ?_
                 try go_wp2
                 go_roundg k4
                 case measure => have := HJ6.out; have := HJ47.out; have := HK3.out; have := HK4.out; omega
                 case rel => exact ⟨(y551), (wrap64 (x20_4 + 1)), zs, H', ⟨by have := HJ6.out; have := HJ47.out; have := HK3.out; have := HK4.out; omega⟩, ⟨by (with_reducible repeat (first | apply zF | apply zG | apply zH)); exact kA (kY (p := ⟨go91, ((ji85) : Int).toNat, none⟩) (kA HO_11.out (fun k_ hk => (⟨hk, fun e_ => hk.2.1 (by rw [e_]; rfl)⟩ : _ ∧ k_ ≠ go91))) (fun _ hk => hk.2) (.int .i64 (wrap64 ((rd x15_4 (ji85)) - (wrap64 ((rd t532 x19_3) * (rd t536 x20_4))))))) (fun _ hk => ⟨hk.1.1, ⟨hk.1.2.1, ⟨hk.1.2.2.1, ⟨hk.1.2.2.2.1, ⟨hk.1.2.2.2.2.1, ⟨hk.1.2.2.2.2.2.1, ⟨hk.1.2.2.2.2.2.2.1, hk.1.2.2.2.2.2.2.2⟩⟩⟩⟩⟩⟩⟩)⟩, ⟨by (with_reducible repeat (first | apply zF | apply zG | apply zH)); exact kA (kY (p := ⟨go91, ((ji85) : Int).toNat, none⟩) (kA HO_13.out (fun k_ hk => (⟨hk, fun e_ => hk.2.1 (by rw [e_]; rfl)⟩ : _ ∧ k_ ≠ go91))) (fun _ hk => hk.2) (.int .i64 (wrap64 ((rd x15_4 (ji85)) - (wrap64 ((rd t532 x19_3) * (rd t536 x20_4))))))) (fun _ hk => ⟨hk.1.1, ⟨hk.1.2.1, ⟨hk.1.2.2.1, ⟨hk.1.2.2.2.1, ⟨hk.1.2.2.2.2.1, ⟨hk.1.2.2.2.2.2.1, ⟨hk.1.2.2.2.2.2.2.1, hk.1.2.2.2.2.2.2.2⟩⟩⟩⟩⟩⟩⟩)⟩, ⟨zP HQ95.out⟩, ⟨by (with_reducible repeat (first | apply zF | apply zG | apply zH)); exact kA (kY (p := ⟨go91, ((ji85) : Int).toNat, none⟩) (kA HO_17.out (fun k_ hk => (⟨hk, fun e_ => hk.2.2.1 (by rw [e_]; rfl)⟩ : _ ∧ k_ ≠ go91))) (fun _ hk => hk.2) (.int .i64 (wrap64 ((rd x15_4 (ji85)) - (wrap64 ((rd t532 x19_3) * (rd t536 x20_4))))))) (fun _ hk => ⟨hk.1.1, ⟨hk.1.2.1, ⟨hk.1.2.2.1, ⟨hk.1.2.2.2.1, ⟨hk.1.2.2.2.2.1, ⟨hk.1.2.2.2.2.2.1, ⟨hk.1.2.2.2.2.2.2.1, hk.1.2.2.2.2.2.2.2⟩⟩⟩⟩⟩⟩⟩)⟩, ⟨by (with_reducible repeat (first | apply zF | apply zG | apply zH)); exact kA (kY (p := ⟨go91, ((ji85) : Int).toNat, none⟩) (kA HO_512001.out (fun k_ hk => (⟨hk, fun e_ => hk.2.2.1 (by rw [e_]; rfl)⟩ : _ ∧ k_ ≠ go91))) (fun _ hk => hk.2) (.int .i64 (wrap64 ((rd x15_4 (ji85)) - (wrap64 ((rd t532 x19_3) * (rd t536 x20_4))))))) (fun _ hk => ⟨hk.1.1, ⟨hk.1.2.1, ⟨hk.1.2.2.1, ⟨hk.1.2.2.2.1, ⟨hk.1.2.2.2.2.1, ⟨hk.1.2.2.2.2.2.1, ⟨hk.1.2.2.2.2.2.2.1, hk.1.2.2.2.2.2.2.2⟩⟩⟩⟩⟩⟩⟩)⟩, ⟨by (with_reducible repeat (first | apply zF | apply zG | apply zH)); exact kA (kY (p := ⟨go91, ((ji85) : Int).toNat, none⟩) (kA HO_513001.out (fun k_ hk => (⟨hk, fun e_ => hk.2.2.1 (by rw [e_]; rfl)⟩ : _ ∧ k_ ≠ go91))) (fun _ hk => hk.2) (.int .i64 (wrap64 ((rd x15_4 (ji85)) - (wrap64 ((rd t532 x19_3) * (rd t536 x20_4))))))) (fun _ hk => ⟨hk.1.1, ⟨hk.1.2.1, ⟨hk.1.2.2.1, ⟨hk.1.2.2.2.1, ⟨hk.1.2.2.2.2.1, ⟨hk.1.2.2.2.2.2.1, ⟨hk.1.2.2.2.2.2.2.1, hk.1.2.2.2.2.2.2.2⟩⟩⟩⟩⟩⟩⟩)⟩, ⟨by (with_reducible repeat (first | apply zF | apply zG | apply zH)); exact kA (kY (p := ⟨go91, ((ji85) : Int).toNat, none⟩) (kA HO_519001.out (fun k_ hk => (⟨hk, fun e_ => hk.2.2.1 (by rw [e_]; rfl)⟩ : _ ∧ k_ ≠ go91))) (fun _ hk => hk.2) (.int .i64 (wrap64 ((rd x15_4 (ji85)) - (wrap64 ((rd t532 x19_3) * (rd t536 x20_4))))))) (fun _ hk => ⟨hk.1.1, ⟨hk.1.2.1, ⟨hk.1.2.2.1, ⟨hk.1.2.2.2.1, ⟨hk.1.2.2.2.2.1, ⟨hk.1.2.2.2.2.2.1, ⟨hk.1.2.2.2.2.2.2.1, hk.1.2.2.2.2.2.2.2⟩⟩⟩⟩⟩⟩⟩)⟩, ⟨by (with_reducible repeat (first | apply zF | apply zG | apply zH)); exact kA (kY (p := ⟨go91, ((ji85) : Int).toNat, none⟩) (kA HO_525001.out (fun k_ hk => (⟨hk, fun e_ => hk.2.2.1 (by rw [e_]; rfl)⟩ : _ ∧ k_ ≠ go91))) (fun _ hk => hk.2) (.int .i64 (wrap64 ((rd x15_4 (ji85)) - (wrap64 ((rd t532 x19_3) * (rd t536 x20_4))))))) (fun _ hk => ⟨hk.1.1, ⟨hk.1.2.1, ⟨hk.1.2.2.1, ⟨hk.1.2.2.2.1, ⟨hk.1.2.2.2.2.1, ⟨hk.1.2.2.2.2.2.1, ⟨hk.1.2.2.2.2.2.2.1, hk.1.2.2.2.2.2.2.2⟩⟩⟩⟩⟩⟩⟩)⟩, ⟨by (with_reducible repeat (first | apply zF | apply zG | apply zH)); exact kA (kY (p := ⟨go91, ((ji85) : Int).toNat, none⟩) (kA HO_532001.out (fun k_ hk => (⟨hk, fun e_ => hk.2.2.1 (by rw [e_]; rfl)⟩ : _ ∧ k_ ≠ go91))) (fun _ hk => hk.2) (.int .i64 (wrap64 ((rd x15_4 (ji85)) - (wrap64 ((rd t532 x19_3) * (rd t536 x20_4))))))) (fun _ hk => ⟨hk.1.1, ⟨hk.1.2.1, ⟨hk.1.2.2.1, ⟨hk.1.2.2.2.1, ⟨hk.1.2.2.2.2.1, ⟨hk.1.2.2.2.2.2.1, ⟨hk.1.2.2.2.2.2.2.1, hk.1.2.2.2.2.2.2.2⟩⟩⟩⟩⟩⟩⟩)⟩, ⟨by (with_reducible repeat (first | refine zJ ?_ _ | refine zK ?_ | refine zI ?_ _)); refine blk_far ?_ (by have h_ := Kd.R_ne HO_15.out BK511.out (by decide); intro e_; exact h_ (by rw [e_]; rfl)) _; (with_reducible repeat (first | refine zJ ?_ _ | refine zK ?_ | refine zI ?_ _)); exact BK511.out⟩, ⟨by (with_reducible repeat (first | refine zJ ?_ _ | refine zK ?_ | refine zI ?_ _)); refine blk_far ?_ (by have h_ := Kd.R_ne HO_15.out BK512.out (by decide); intro e_; exact h_ (by rw [e_]; rfl)) _; (with_reducible repeat (first | refine zJ ?_ _ | refine zK ?_ | refine zI ?_ _)); exact BK512.out⟩, ⟨by (with_reducible repeat (first | refine zJ ?_ _ | refine zK ?_ | refine zI ?_ _)); refine blk_far ?_ (by have h_ := Kd.R_ne HO_15.out BK518.out (by decide); intro e_; exact h_ (by rw [e_]; rfl)) _; (with_reducible repeat (first | refine zJ ?_ _ | refine zK ?_ | refine zI ?_ _)); exact BK518.out⟩, ⟨by (with_reducible repeat (first | refine zJ ?_ _ | refine zK ?_ | refine zI ?_ _)); refine blk_far ?_ (by have h_ := Kd.R_ne HO_15.out BK524.out (by decide); intro e_; exact h_ (by rw [e_]; rfl)) _; (with_reducible repeat (first | refine zJ ?_ _ | refine zK ?_ | refine zI ?_ _)); exact BK524.out⟩, ⟨by (with_reducible repeat (first | refine zJ ?_ _ | refine zK ?_ | refine zI ?_ _)); refine blk_far ?_ (by have h_ := Kd.R_ne HO_15.out BK531.out (by decide); intro e_; exact h_ (by rw [e_]; rfl)) _; (with_reducible repeat (first | refine zJ ?_ _ | refine zK ?_ | refine zI ?_ _)); exact BK531.out⟩, ⟨by repeat (first | (with_reducible first | exact HB.out | apply zB | apply zC | apply zD | refine zE ?_ GB91.out | refine zE ?_ GE511.out | refine zE ?_ GE512.out | refine zE ?_ GE518.out | refine zE ?_ GE524.out | refine zE ?_ GE531.out) | exact HB.out)⟩⟩
                rw [if_neg c90] at H
                exact absurd H (by simp)
               rw [if_neg c89] at H
               exact absurd H (by simp)
              rw [if_neg c88] at H
              exact absurd H (by simp)
             rw [if_neg c87] at H
             exact absurd H (by simp)
            rw [if_neg c86] at H
            exact absurd H (by simp)
           rw [if_neg c84] at H
           have c84b0 : decide (x20_4 < (t536.length : Int)) = false := decide_eq_false c84
           clear c84
           have H' := zA H
           clear H
           obtain ⟨Ao96, co96, eo96⟩ := kM HO_13.out
           subst eo96
           go_wp2
           go_roundg k4
           case measure => have := HJ6.out; have := HJ47.out; have := HK3.out; have := HK4.out; omega
           case rel => exact ⟨(x15_4), (wrap64 (x19_3 + 1)), zs, H', ⟨by have := HJ6.out; have := HJ47.out; have := HK3.out; have := HK4.out; omega⟩, ⟨zP HO_11.out⟩, ⟨zP HO_13.out⟩, ⟨zP HO_15.out⟩, ⟨zP HO_17.out⟩, ⟨zP HO_512001.out⟩, ⟨zP HO_513001.out⟩, ⟨zP HO_519001.out⟩, ⟨zP HO_525001.out⟩, ⟨zP HO_532001.out⟩, ⟨zR BK511.out⟩, ⟨zR BK512.out⟩, ⟨zR BK518.out⟩, ⟨zR BK524.out⟩, ⟨zR BK531.out⟩, ⟨by repeat (first | (with_reducible first | exact HB.out | apply zB | apply zC | apply zD | refine zE ?_ GE511.out | refine zE ?_ GE512.out | refine zE ?_ GE518.out | refine zE ?_ GE524.out | refine zE ?_ GE531.out) | exact HB.out)⟩⟩
        rw [if_neg c82] at H
        have c82b0 : decide (x19_3 < (t532.length : Int)) = false := decide_eq_false c82
        clear c82
        have H' := zA H
        clear H
        obtain ⟨Ao97, co97, eo97⟩ := kM HO_11.out
        subst eo97
        go_wp2
        go_loopg [21] k3 (fun kq v21 w' => ∃ (x21_4 : Int), v21 = .int .i64 x21_4 ∧ Aside0 (laws_FnProductCounts.l2 kq t532 t536 x15_3 t544 x21_4 = some r) ∧ Aside0 (kq ≤ k3) ∧ Aside0 (Kd.R (Kd.int .i64) 2 w' w.heap.size (fun k_ => some k_ ≠ (v537 : Value).ownBlock ∧ some k_ ≠ (v541 : Value).ownBlock ∧ some k_ ≠ (v545 : Value).ownBlock ∧ some k_ ≠ ((.slice Ao13 t504.length co13) : Value).ownBlock ∧ some k_ ≠ ((.slice Ao15 t508.length co15) : Value).ownBlock ∧ some k_ ≠ ((.slice Ao21 t514.length co21) : Value).ownBlock ∧ some k_ ≠ ((.slice Ao30 t520.length co30) : Value).ownBlock ∧ some k_ ≠ ((.slice Ao63 t527.length co63) : Value).ownBlock) (.slice Ao97 t532.length co97) t532) ∧ Aside0 (Kd.R (Kd.int .i64) 2 w' w.heap.size (fun k_ => some k_ ≠ ((.slice Ao97 t532.length co97) : Value).ownBlock ∧ some k_ ≠ (v541 : Value).ownBlock ∧ some k_ ≠ (v545 : Value).ownBlock ∧ some k_ ≠ ((.slice Ao13 t504.length co13) : Value).ownBlock ∧ some k_ ≠ ((.slice Ao15 t508.length co15) : Value).ownBlock ∧ some k_ ≠ ((.slice Ao21 t514.length co21) : Value).ownBlock ∧ some k_ ≠ ((.slice Ao30 t520.length co30) : Value).ownBlock ∧ some k_ ≠ ((.slice Ao63 t527.length co63) : Value).ownBlock) v537 t536) ∧ Aside0 (Kd.R (Kd.int .i64) 2 w' w.heap.size (fun k_ => some k_ ≠ ((.slice Ao97 t532.length co97) : Value).ownBlock ∧ some k_ ≠ (v537 : Value).ownBlock ∧ some k_ ≠ (v545 : Value).ownBlock ∧ some k_ ≠ ((.slice Ao13 t504.length co13) : Value).ownBlock ∧ some k_ ≠ ((.slice Ao15 t508.length co15) : Value).ownBlock ∧ some k_ ≠ ((.slice Ao21 t514.length co21) : Value).ownBlock ∧ some k_ ≠ ((.slice Ao30 t520.length co30) : Value).ownBlock ∧ some k_ ≠ ((.slice Ao63 t527.length co63) : Value).ownBlock) v541 x15_3) ∧ Aside0 (Kd.R (Kd.int .i64) 2 w' w.heap.size (fun k_ => some k_ ≠ ((.slice Ao97 t532.length co97) : Value).ownBlock ∧ some k_ ≠ (v537 : Value).ownBlock ∧ some k_ ≠ (v541 : Value).ownBlock ∧ some k_ ≠ ((.slice Ao13 t504.length co13) : Value).ownBlock ∧ some k_ ≠ ((.slice Ao15 t508.length co15) : Value).ownBlock ∧ some k_ ≠ ((.slice Ao21 t514.length co21) : Value).ownBlock ∧ some k_ ≠ ((.slice Ao30 t520.length co30) : Value).ownBlock ∧ some k_ ≠ ((.slice Ao63 t527.length co63) : Value).ownBlock) v545 t544) ∧ Aside0 (Kd.R (Kd.int .i64) 2 w' w.heap.size (fun k_ => some k_ ≠ ((.slice Ao97 t532.length co97) : Value).ownBlock ∧ some k_ ≠ (v537 : Value).ownBlock ∧ some k_ ≠ (v541 : Value).ownBlock ∧ some k_ ≠ (v545 : Value).ownBlock ∧ some k_ ≠ ((.slice Ao15 t508.length co15) : Value).ownBlock ∧ some k_ ≠ ((.slice Ao21 t514.length co21) : Value).ownBlock ∧ some k_ ≠ ((.slice Ao30 t520.length co30) : Value).ownBlock ∧ some k_ ≠ ((.slice Ao63 t527.length co63) : Value).ownBlock) (.slice Ao13 t504.length co13) t504) ∧ Aside0 (Kd.R (Kd.int .i64) 2 w' w.heap.size (fun k_ => some k_ ≠ ((.slice Ao97 t532.length co97) : Value).ownBlock ∧ some k_ ≠ (v537 : Value).ownBlock ∧ some k_ ≠ (v541 : Value).ownBlock ∧ some k_ ≠ (v545 : Value).ownBlock ∧ some k_ ≠ ((.slice Ao13 t504.length co13) : Value).ownBlock ∧ some k_ ≠ ((.slice Ao21 t514.length co21) : Value).ownBlock ∧ some k_ ≠ ((.slice Ao30 t520.length co30) : Value).ownBlock ∧ some k_ ≠ ((.slice Ao63 t527.length co63) : Value).ownBlock) (.slice Ao15 t508.length co15) t508) ∧ Aside0 (Kd.R (Kd.int .i64) 2 w' w.heap.size (fun k_ => some k_ ≠ ((.slice Ao97 t532.length co97) : Value).ownBlock ∧ some k_ ≠ (v537 : Value).ownBlock ∧ some k_ ≠ (v541 : Value).ownBlock ∧ some k_ ≠ (v545 : Value).ownBlock ∧ some k_ ≠ ((.slice Ao13 t504.length co13) : Value).ownBlock ∧ some k_ ≠ ((.slice Ao15 t508.length co15) : Value).ownBlock ∧ some k_ ≠ ((.slice Ao30 t520.length co30) : Value).ownBlock ∧ some k_ ≠ ((.slice Ao63 t527.length co63) : Value).ownBlock) (.slice Ao21 t514.length co21) t514) ∧ Aside0 (Kd.R (Kd.int .i64) 2 w' w.heap.size (fun k_ => some k_ ≠ ((.slice Ao97 t532.length co97) : Value).ownBlock ∧ some k_ ≠ (v537 : Value).ownBlock ∧ some k_ ≠ (v541 : Value).ownBlock ∧ some k_ ≠ (v545 : Value).ownBlock ∧ some k_ ≠ ((.slice Ao13 t504.length co13) : Value).ownBlock ∧ some k_ ≠ ((.slice Ao15 t508.length co15) : Value).ownBlock ∧ some k_ ≠ ((.slice Ao21 t514.length co21) : Value).ownBlock ∧ some k_ ≠ ((.slice Ao63 t527.length co63) : Value).ownBlock) (.slice Ao30 t520.length co30) t520) ∧ Aside0 (Kd.R (Kd.int .i64) 2 w' w.heap.size (fun k_ => some k_ ≠ ((.slice Ao97 t532.length co97) : Value).ownBlock ∧ some k_ ≠ (v537 : Value).ownBlock ∧ some k_ ≠ (v541 : Value).ownBlock ∧ some k_ ≠ (v545 : Value).ownBlock ∧ some k_ ≠ ((.slice Ao13 t504.length co13) : Value).ownBlock ∧ some k_ ≠ ((.slice Ao15 t508.length co15) : Value).ownBlock ∧ some k_ ≠ ((.slice Ao21 t514.length co21) : Value).ownBlock ∧ some k_ ≠ ((.slice Ao30 t520.length co30) : Value).ownBlock) (.slice Ao63 t527.length co63) t527) ∧ Aside0 (w'.heap[gb511]? = some (.cells #[.int .i64 t503, (.slice Ao13 t504.length co13)] 26 (0, 0))) ∧ Aside0 (w'.heap[gb512]? = some (.cells #[.int .i64 t507, (.slice Ao15 t508.length co15)] 26 (0, 0))) ∧ Aside0 (w'.heap[gb518]? = some (.cells #[.int .i64 t513, (.slice Ao21 t514.length co21)] 26 (0, 0))) ∧ Aside0 (w'.heap[gb524]? = some (.cells #[.int .i64 t519, (.slice Ao30 t520.length co30)] 26 (0, 0))) ∧ Aside0 (w'.heap[gb531]? = some (.cells #[.int .i64 t526, (.slice Ao63 t527.length co63)] 26 (0, 0))) ∧ Aside0 (Below w.heap.size w w'))
        case atStart => exact ⟨(0), zs, H', ⟨Nat.le_refl _⟩, ⟨zP HO_11.out⟩, ⟨zP HO_13.out⟩, ⟨zP HO_15.out⟩, ⟨zP HO_17.out⟩, ⟨zP HO_512001.out⟩, ⟨zP HO_513001.out⟩, ⟨zP HO_519001.out⟩, ⟨zP HO_525001.out⟩, ⟨zP HO_532001.out⟩, ⟨zR BK511.out⟩, ⟨zR BK512.out⟩, ⟨zR BK518.out⟩, ⟨zR BK524.out⟩, ⟨zR BK531.out⟩, ⟨by repeat (first | (with_reducible first | exact HB.out | apply zB | apply zC | apply zD | refine zE ?_ GE511.out | refine zE ?_ GE512.out | refine zE ?_ GE518.out | refine zE ?_ GE524.out | refine zE ?_ GE531.out) | exact HB.out)⟩⟩
        case round =>
         clear H'
         try clear c1
         try clear c2
         try clear c3
         try clear c4
         try clear c5
         try clear hx5
         try clear c6
         try clear c7
         try clear c8
         try clear c9
         try clear hx9
         try clear hf9
         try clear c10
         try clear c11
         try clear c18
         try clear c19
         try clear c26
         try clear c27
         try clear c28
         try clear c31
         try clear c33
         try clear c34
         try clear c35
         try clear c37
         try clear c38
         try clear c41
         try clear c42
         try clear c49
         try clear c50
         try clear c51
         try clear c53
         try clear c54
         try clear hx54
         try clear hx55
         try clear c58
         try clear c59
         try clear c60
         try clear c61
         try clear c68
         try clear c73
         try clear c74
         try clear c75
         try clear c76
         try clear c77
         try clear c81
         try clear c82
         try clear c84
         try clear c86
         try clear c87
         try clear c88
         try clear c89
         try clear c90
         try clear hx91
         try clear hf91
         try clear hcz12_0
         try clear hcz12_1
         try clear hcz14_0
         try clear hcz14_1
         try clear hcz20_0
         try clear hcz20_1
         try clear hcz22_0
         try clear hcz22_1
         try clear hcz23_0
         try clear hcz23_1
         try clear hcz29_0
         try clear hcz29_1
         try clear hcz36_0
         try clear hcz36_1
         try clear hcz39_0
         try clear hcz39_1
         try clear hcz52_0
         try clear hcz52_1
         try clear hcz55_0
         try clear hcz55_1
         try clear hcz62_0
         try clear hcz62_1
         try clear hcz64_0
         try clear hcz64_1
         try clear hcz66_0
         try clear hcz66_1
         try clear hcz69_0
         try clear hcz69_1
         try clear hcz71_0
         try clear hcz71_1
         try clear hfz12_0
         try clear hfz12_1
         try clear hfz14_0
         try clear hfz14_1
         try clear hfz20_0
         try clear hfz20_1
         try clear hfz22_0
         try clear hfz22_1
         try clear hfz23_0
         try clear hfz23_1
         try clear hfz29_0
         try clear hfz29_1
         try clear hfz36_0
         try clear hfz36_1
         try clear hfz39_0
         try clear hfz39_1
         try clear hfz52_0
         try clear hfz52_1
         try clear hfz55_0
         try clear hfz55_1
         try clear hfz62_0
         try clear hfz62_1
         try clear hfz64_0
         try clear hfz64_1
         try clear hfz66_0
         try clear hfz66_1
         try clear hfz69_0
         try clear hfz69_1
         try clear hfz71_0
         try clear hfz71_1
         try clear hx548_0
         try clear hx549_0
         try clear hx550_0
         try clear hx91_0
         obtain ⟨x21_4, rfl, HA, HK4, HO_11, HO_13, HO_15, HO_17, HO_512001, HO_513001, HO_519001, HO_525001, HO_532001, BK511, BK512, BK518, BK524, BK531, HB⟩ := hrel
         cases gk with
         | zero => exact absurd HA.out (by simp [laws_FnProductCounts.l2])
         | succ k4 =>
          have H := HA.out
          clear HA
          simp only [laws_FnProductCounts.l2] at H
          by_cases c98 : x21_4 < (x15_3.length : Int)
          ·rw [if_pos c98] at H
           have c98b0 : decide (x21_4 < (x15_3.length : Int)) = true := decide_eq_true c98
           clear c98
           by_cases c99 : 0 ≤ x21_4
           ·rw [if_pos c99] at H
            have c99b0 : decide (0 ≤ x21_4) = true := decide_eq_true c99
            clear c99
            by_cases c100 : (rd x15_3 x21_4) = 0
            ·rw [if_pos c100] at H
             obtain ⟨c100b0, c100b1⟩ := zT1 c100
             clear c100
             have H' := zA H
             clear H
             obtain ⟨Ao101, co101, eo101⟩ := kM HO_15.out
             subst eo101
             have p552 : 0 ≤ (x21_4 : Int) := zd
             have q552 : x21_4 < (x15_3.length : Int) := zd
             obtain ⟨ad552, e552, hx552_0⟩ := Kd.at_int (kB HO_15.out).2.2 x21_4 p552 q552
             cases e552
             replace p552 := eq_true p552
             replace q552 := eq_true q552
             go_wp2
             go_roundg k4
             case measure => have := HJ6.out; have := HJ47.out; have := HK3.out; have := HK4.out; omega
             case rel => exact ⟨(wrap64 (x21_4 + 1)), zs, H', ⟨by have := HJ6.out; have := HJ47.out; have := HK3.out; have := HK4.out; omega⟩, ⟨zP HO_11.out⟩, ⟨zP HO_13.out⟩, ⟨zP HO_15.out⟩, ⟨zP HO_17.out⟩, ⟨zP HO_512001.out⟩, ⟨zP HO_513001.out⟩, ⟨zP HO_519001.out⟩, ⟨zP HO_525001.out⟩, ⟨zP HO_532001.out⟩, ⟨zR BK511.out⟩, ⟨zR BK512.out⟩, ⟨zR BK518.out⟩, ⟨zR BK524.out⟩, ⟨zR BK531.out⟩, ⟨by repeat (first | (with_reducible first | exact HB.out | apply zB | apply zC | apply zD | refine zE ?_ GE511.out | refine zE ?_ GE512.out | refine zE ?_ GE518.out | refine zE ?_ GE524.out | refine zE ?_ GE531.out) | exact HB.out)⟩⟩
            rw [if_neg c100] at H
            exact absurd H (by simp)
           rw [if_neg c99] at H
           exact absurd H (by simp)
          rw [if_neg c98] at H
          have c98b0 : decide (x21_4 < (x15_3.length : Int)) = false := decide_eq_false c98
          clear c98
          have H' := zA H
          clear H
          obtain ⟨Ao102, co102, eo102⟩ := kM HO_15.out
          subst eo102
          go_wp2
          go_loopg [22] k4 (fun kq v22 w' => ∃ (x22_5 : Int), v22 = .int .i64 x22_5 ∧ Aside0 (laws_FnProductCounts.l3 kq t532 t536 t544 x22_5 = some r) ∧ Aside0 (kq ≤ k4) ∧ Aside0 (Kd.R (Kd.int .i64) 2 w' w.heap.size (fun k_ => some k_ ≠ (v537 : Value).ownBlock ∧ some k_ ≠ (v545 : Value).ownBlock ∧ some k_ ≠ ((.slice Ao13 t504.length co13) : Value).ownBlock ∧ some k_ ≠ ((.slice Ao15 t508.length co15) : Value).ownBlock ∧ some k_ ≠ ((.slice Ao21 t514.length co21) : Value).ownBlock ∧ some k_ ≠ ((.slice Ao30 t520.length co30) : Value).ownBlock ∧ some k_ ≠ ((.slice Ao63 t527.length co63) : Value).ownBlock) (.slice Ao97 t532.length co97) t532) ∧ Aside0 (Kd.R (Kd.int .i64) 2 w' w.heap.size (fun k_ => some k_ ≠ ((.slice Ao97 t532.length co97) : Value).ownBlock ∧ some k_ ≠ (v545 : Value).ownBlock ∧ some k_ ≠ ((.slice Ao13 t504.length co13) : Value).ownBlock ∧ some k_ ≠ ((.slice Ao15 t508.length co15) : Value).ownBlock ∧ some k_ ≠ ((.slice Ao21 t514.length co21) : Value).ownBlock ∧ some k_ ≠ ((.slice Ao30 t520.length co30) : Value).ownBlock ∧ some k_ ≠ ((.slice Ao63 t527.length co63) : Value).ownBlock) v537 t536) ∧ Aside0 (Kd.R (Kd.int .i64) 2 w' w.heap.size (fun k_ => some k_ ≠ ((.slice Ao97 t532.length co97) : Value).ownBlock ∧ some k_ ≠ (v537 : Value).ownBlock ∧ some k_ ≠ ((.slice Ao13 t504.length co13) : Value).ownBlock ∧ some k_ ≠ ((.slice Ao15 t508.length co15) : Value).ownBlock ∧ some k_ ≠ ((.slice Ao21 t514.length co21) : Value).ownBlock ∧ some k_ ≠ ((.slice Ao30 t520.length co30) : Value).ownBlock ∧ some k_ ≠ ((.slice Ao63 t527.length co63) : Value).ownBlock) v545 t544) ∧ Aside0 (Kd.R (Kd.int .i64) 2 w' w.heap.size (fun k_ => some k_ ≠ ((.slice Ao97 t532.length co97) : Value).ownBlock ∧ some k_ ≠ (v537 : Value).ownBlock ∧ some k_ ≠ (v545 : Value).ownBlock ∧ some k_ ≠ ((.slice Ao15 t508.length co15) : Value).ownBlock ∧ some k_ ≠ ((.slice Ao21 t514.length co21) : Value).ownBlock ∧ some k_ ≠ ((.slice Ao30 t520.length co30) : Value).ownBlock ∧ some k_ ≠ ((.slice Ao63 t527.length co63) : Value).ownBlock) (.slice Ao13 t504.length co13) t504) ∧ Aside0 (Kd.R (Kd.int .i64) 2 w' w.heap.size (fun k_ => some k_ ≠ ((.slice Ao97 t532.length co97) : Value).ownBlock ∧ some k_ ≠ (v537 : Value).ownBlock ∧ some k_ ≠ (v545 : Value).ownBlock ∧ some k_ ≠ ((.slice Ao13 t504.length co13) : Value).ownBlock ∧ some k_ ≠ ((.slice Ao21 t514.length co21) : Value).ownBlock ∧ some k_ ≠ ((.slice Ao30 t520.length co30) : Value).ownBlock ∧ some k_ ≠ ((.slice Ao63 t527.length co63) : Value).ownBlock) (.slice Ao15 t508.length co15) t508) ∧ Aside0 (Kd.R (Kd.int .i64) 2 w' w.heap.size (fun k_ => some k_ ≠ ((.slice Ao97 t532.length co97) : Value).ownBlock ∧ some k_ ≠ (v537 : Value).ownBlock ∧ some k_ ≠ (v545 : Value).ownBlock ∧ some k_ ≠ ((.slice Ao13 t504.length co13) : Value).ownBlock ∧ some k_ ≠ ((.slice Ao15 t508.length co15) : Value).ownBlock ∧ some k_ ≠ ((.slice Ao30 t520.length co30) : Value).ownBlock ∧ some k_ ≠ ((.slice Ao63 t527.length co63) : Value).ownBlock) (.slice Ao21 t514.length co21) t514) ∧ Aside0 (Kd.R (Kd.int .i64) 2 w' w.heap.size (fun k_ => some k_ ≠ ((.slice Ao97 t532.length co97) : Value).ownBlock ∧ some k_ ≠ (v537 : Value).ownBlock ∧ some k_ ≠ (v545 : Value).ownBlock ∧ some k_ ≠ ((.slice Ao13 t504.length co13) : Value).ownBlock ∧ some k_ ≠ ((.slice Ao15 t508.length co15) : Value).ownBlock ∧ some k_ ≠ ((.slice Ao21 t514.length co21) : Value).ownBlock ∧ some k_ ≠ ((.slice Ao63 t527.length co63) : Value).ownBlock) (.slice Ao30 t520.length co30) t520) ∧ Aside0 (Kd.R (Kd.int .i64) 2 w' w.heap.size (fun k_ => some k_ ≠ ((.slice Ao97 t532.length co97) : Value).ownBlock ∧ some k_ ≠ (v537 : Value).ownBlock ∧ some k_ ≠ (v545 : Value).ownBlock ∧ some k_ ≠ ((.slice Ao13 t504.length co13) : Value).ownBlock ∧ some k_ ≠ ((.slice Ao15 t508.length co15) : Value).ownBlock ∧ some k_ ≠ ((.slice Ao21 t514.length co21) : Value).ownBlock ∧ some k_ ≠ ((.slice Ao30 t520.length co30) : Value).ownBlock) (.slice Ao63 t527.length co63) t527) ∧ Aside0 (w'.heap[gb511]? = some (.cells #[.int .i64 t503, (.slice Ao13 t504.length co13)] 26 (0, 0))) ∧ Aside0 (w'.heap[gb512]? = some (.cells #[.int .i64 t507, (.slice Ao15 t508.length co15)] 26 (0, 0))) ∧ Aside0 (w'.heap[gb518]? = some (.cells #[.int .i64 t513, (.slice Ao21 t514.length co21)] 26 (0, 0))) ∧ Aside0 (w'.heap[gb524]? = some (.cells #[.int .i64 t519, (.slice Ao30 t520.length co30)] 26 (0, 0))) ∧ Aside0 (w'.heap[gb531]? = some (.cells #[.int .i64 t526, (.slice Ao63 t527.length co63)] 26 (0, 0))) ∧ Aside0 (Below w.heap.size w w'))
          case atStart => exact ⟨(0), zs, H', ⟨Nat.le_refl _⟩, ⟨zPM HO_11.out (fun _ hk => ⟨hk.1, ⟨hk.2.2.1, ⟨hk.2.2.2.1, ⟨hk.2.2.2.2.1, ⟨hk.2.2.2.2.2.1, ⟨hk.2.2.2.2.2.2.1, hk.2.2.2.2.2.2.2⟩⟩⟩⟩⟩⟩)⟩, ⟨zPM HO_13.out (fun _ hk => ⟨hk.1, ⟨hk.2.2.1, ⟨hk.2.2.2.1, ⟨hk.2.2.2.2.1, ⟨hk.2.2.2.2.2.1, ⟨hk.2.2.2.2.2.2.1, hk.2.2.2.2.2.2.2⟩⟩⟩⟩⟩⟩)⟩, ⟨zPM HO_17.out (fun _ hk => ⟨hk.1, ⟨hk.2.1, ⟨hk.2.2.2.1, ⟨hk.2.2.2.2.1, ⟨hk.2.2.2.2.2.1, ⟨hk.2.2.2.2.2.2.1, hk.2.2.2.2.2.2.2⟩⟩⟩⟩⟩⟩)⟩, ⟨zPM HO_512001.out (fun _ hk => ⟨hk.1, ⟨hk.2.1, ⟨hk.2.2.2.1, ⟨hk.2.2.2.2.1, ⟨hk.2.2.2.2.2.1, ⟨hk.2.2.2.2.2.2.1, hk.2.2.2.2.2.2.2⟩⟩⟩⟩⟩⟩)⟩, ⟨zPM HO_513001.out (fun _ hk => ⟨hk.1, ⟨hk.2.1, ⟨hk.2.2.2.1, ⟨hk.2.2.2.2.1, ⟨hk.2.2.2.2.2.1, ⟨hk.2.2.2.2.2.2.1, hk.2.2.2.2.2.2.2⟩⟩⟩⟩⟩⟩)⟩, ⟨zPM HO_519001.out (fun _ hk => ⟨hk.1, ⟨hk.2.1, ⟨hk.2.2.2.1, ⟨hk.2.2.2.2.1, ⟨hk.2.2.2.2.2.1, ⟨hk.2.2.2.2.2.2.1, hk.2.2.2.2.2.2.2⟩⟩⟩⟩⟩⟩)⟩, ⟨zPM HO_525001.out (fun _ hk => ⟨hk.1, ⟨hk.2.1, ⟨hk.2.2.2.1, ⟨hk.2.2.2.2.1, ⟨hk.2.2.2.2.2.1, ⟨hk.2.2.2.2.2.2.1, hk.2.2.2.2.2.2.2⟩⟩⟩⟩⟩⟩)⟩, ⟨zPM HO_532001.out (fun _ hk => ⟨hk.1, ⟨hk.2.1, ⟨hk.2.2.2.1, ⟨hk.2.2.2.2.1, ⟨hk.2.2.2.2.2.1, ⟨hk.2.2.2.2.2.2.1, hk.2.2.2.2.2.2.2⟩⟩⟩⟩⟩⟩)⟩, ⟨zR BK511.out⟩, ⟨zR BK512.out⟩, ⟨zR BK518.out⟩, ⟨zR BK524.out⟩, ⟨zR BK531.out⟩, ⟨by repeat (first | (with_reducible first | exact HB.out | apply zB | apply zC | apply zD | refine zE ?_ GE511.out | refine zE ?_ GE512.out | refine zE ?_ GE518.out | refine zE ?_ GE524.out | refine zE ?_ GE531.out) | exact HB.out)⟩⟩
          case round =>
           clear H'
           try clear c1
           try clear c2
           try clear c3
           try clear c4
           try clear c5
           try clear hx5
           try clear c6
           try clear c7
           try clear c8
           try clear c9
           try clear hx9
           try clear hf9
           try clear c10
           try clear c11
           try clear c18
           try clear c19
           try clear c26
           try clear c27
           try clear c28
           try clear c31
           try clear c33
           try clear c34
           try clear c35
           try clear c37
           try clear c38
           try clear c41
           try clear c42
           try clear c49
           try clear c50
           try clear c51
           try clear c53
           try clear c54
           try clear hx54
           try clear hx55
           try clear c58
           try clear c59
           try clear c60
           try clear c61
           try clear c68
           try clear c73
           try clear c74
           try clear c75
           try clear c76
           try clear c77
           try clear c81
           try clear c82
           try clear c84
           try clear c86
           try clear c87
           try clear c88
           try clear c89
           try clear c90
           try clear hx91
           try clear hf91
           try clear c98
           try clear c99
           try clear c100
           try clear hcz12_0
           try clear hcz12_1
           try clear hcz14_0
           try clear hcz14_1
           try clear hcz20_0
           try clear hcz20_1
           try clear hcz22_0
           try clear hcz22_1
           try clear hcz23_0
           try clear hcz23_1
           try clear hcz29_0
           try clear hcz29_1
           try clear hcz36_0
           try clear hcz36_1
           try clear hcz39_0
           try clear hcz39_1
           try clear hcz52_0
           try clear hcz52_1
           try clear hcz55_0
           try clear hcz55_1
           try clear hcz62_0
           try clear hcz62_1
           try clear hcz64_0
           try clear hcz64_1
           try clear hcz66_0
           try clear hcz66_1
           try clear hcz69_0
           try clear hcz69_1
           try clear hcz71_0
           try clear hcz71_1
           try clear hfz12_0
           try clear hfz12_1
           try clear hfz14_0
           try clear hfz14_1
           try clear hfz20_0
           try clear hfz20_1
           try clear hfz22_0
           try clear hfz22_1
           try clear hfz23_0
           try clear hfz23_1
           try clear hfz29_0
           try clear hfz29_1
           try clear hfz36_0
           try clear hfz36_1
           try clear hfz39_0
           try clear hfz39_1
           try clear hfz52_0
           try clear hfz52_1
           try clear hfz55_0
           try clear hfz55_1
           try clear hfz62_0
           try clear hfz62_1
           try clear hfz64_0
           try clear hfz64_1
           try clear hfz66_0
           try clear hfz66_1
           try clear hfz69_0
           try clear hfz69_1
           try clear hfz71_0
           try clear hfz71_1
           try clear hx548_0
           try clear hx549_0
           try clear hx550_0
           try clear hx552_0
           try clear hx91_0
           obtain ⟨x22_5, rfl, HA, HK5, HO_11, HO_13, HO_17, HO_512001, HO_513001, HO_519001, HO_525001, HO_532001, BK511, BK512, BK518, BK524, BK531, HB⟩ := hrel
           cases gk with
           | zero => exact absurd HA.out (by simp [laws_FnProductCounts.l3])
           | succ k5 =>
            have H := HA.out
            clear HA
            simp only [laws_FnProductCounts.l3] at H
            have HC103 := zA H
            clear H
            go_upto_region 30 with (fail)
            go_cut [168] (fun v168 wc => ∃ (kq : Nat) (x168_102 : Bool), v168 = .bool x168_102 ∧ Aside0 (laws_FnProductCounts.j6 kq t532 t536 t544 x22_5 x168_102 = some r) ∧ Aside0 (kq ≤ k5) ∧ Aside0 (Kd.R (Kd.int .i64) 2 wc w.heap.size (fun k_ => some k_ ≠ (v537 : Value).ownBlock ∧ some k_ ≠ (v545 : Value).ownBlock ∧ some k_ ≠ ((.slice Ao13 t504.length co13) : Value).ownBlock ∧ some k_ ≠ ((.slice Ao15 t508.length co15) : Value).ownBlock ∧ some k_ ≠ ((.slice Ao21 t514.length co21) : Value).ownBlock ∧ some k_ ≠ ((.slice Ao30 t520.length co30) : Value).ownBlock ∧ some k_ ≠ ((.slice Ao63 t527.length co63) : Value).ownBlock) (.slice Ao97 t532.length co97) t532) ∧ Aside0 (Kd.R (Kd.int .i64) 2 wc w.heap.size (fun k_ => some k_ ≠ ((.slice Ao97 t532.length co97) : Value).ownBlock ∧ some k_ ≠ (v545 : Value).ownBlock ∧ some k_ ≠ ((.slice Ao13 t504.length co13) : Value).ownBlock ∧ some k_ ≠ ((.slice Ao15 t508.length co15) : Value).ownBlock ∧ some k_ ≠ ((.slice Ao21 t514.length co21) : Value).ownBlock ∧ some k_ ≠ ((.slice Ao30 t520.length co30) : Value).ownBlock ∧ some k_ ≠ ((.slice Ao63 t527.length co63) : Value).ownBlock) v537 t536) ∧ Aside0 (Kd.R (Kd.int .i64) 2 wc w.heap.size (fun k_ => some k_ ≠ ((.slice Ao97 t532.length co97) : Value).ownBlock ∧ some k_ ≠ (v537 : Value).ownBlock ∧ some k_ ≠ ((.slice Ao13 t504.length co13) : Value).ownBlock ∧ some k_ ≠ ((.slice Ao15 t508.length co15) : Value).ownBlock ∧ some k_ ≠ ((.slice Ao21 t514.length co21) : Value).ownBlock ∧ some k_ ≠ ((.slice Ao30 t520.length co30) : Value).ownBlock ∧ some k_ ≠ ((.slice Ao63 t527.length co63) : Value).ownBlock) v545 t544) ∧ Aside0 (Kd.R (Kd.int .i64) 2 wc w.heap.size (fun k_ => some k_ ≠ ((.slice Ao97 t532.length co97) : Value).ownBlock ∧ some k_ ≠ (v537 : Value).ownBlock ∧ some k_ ≠ (v545 : Value).ownBlock ∧ some k_ ≠ ((.slice Ao15 t508.length co15) : Value).ownBlock ∧ some k_ ≠ ((.slice Ao21 t514.length co21) : Value).ownBlock ∧ some k_ ≠ ((.slice Ao30 t520.length co30) : Value).ownBlock ∧ some k_ ≠ ((.slice Ao63 t527.length co63) : Value).ownBlock) (.slice Ao13 t504.length co13) t504) ∧ Aside0 (Kd.R (Kd.int .i64) 2 wc w.heap.size (fun k_ => some k_ ≠ ((.slice Ao97 t532.length co97) : Value).ownBlock ∧ some k_ ≠ (v537 : Value).ownBlock ∧ some k_ ≠ (v545 : Value).ownBlock ∧ some k_ ≠ ((.slice Ao13 t504.length co13) : Value).ownBlock ∧ some k_ ≠ ((.slice Ao21 t514.length co21) : Value).ownBlock ∧ some k_ ≠ ((.slice Ao30 t520.length co30) : Value).ownBlock ∧ some k_ ≠ ((.slice Ao63 t527.length co63) : Value).ownBlock) (.slice Ao15 t508.length co15) t508) ∧ Aside0 (Kd.R (Kd.int .i64) 2 wc w.heap.size (fun k_ => some k_ ≠ ((.slice Ao97 t532.length co97) : Value).ownBlock ∧ some k_ ≠ (v537 : Value).ownBlock ∧ some k_ ≠ (v545 : Value).ownBlock ∧ some k_ ≠ ((.slice Ao13 t504.length co13) : Value).ownBlock ∧ some k_ ≠ ((.slice Ao15 t508.length co15) : Value).ownBlock ∧ some k_ ≠ ((.slice Ao30 t520.length co30) : Value).ownBlock ∧ some k_ ≠ ((.slice Ao63 t527.length co63) : Value).ownBlock) (.slice Ao21 t514.length co21) t514) ∧ Aside0 (Kd.R (Kd.int .i64) 2 wc w.heap.size (fun k_ => some k_ ≠ ((.slice Ao97 t532.length co97) : Value).ownBlock ∧ some k_ ≠ (v537 : Value).ownBlock ∧ some k_ ≠ (v545 : Value).ownBlock ∧ some k_ ≠ ((.slice Ao13 t504.length co13) : Value).ownBlock ∧ some k_ ≠ ((.slice Ao15 t508.length co15) : Value).ownBlock ∧ some k_ ≠ ((.slice Ao21 t514.length co21) : Value).ownBlock ∧ some k_ ≠ ((.slice Ao63 t527.length co63) : Value).ownBlock) (.slice Ao30 t520.length co30) t520) ∧ Aside0 (Kd.R (Kd.int .i64) 2 wc w.heap.size (fun k_ => some k_ ≠ ((.slice Ao97 t532.length co97) : Value).ownBlock ∧ some k_ ≠ (v537 : Value).ownBlock ∧ some k_ ≠ (v545 : Value).ownBlock ∧ some k_ ≠ ((.slice Ao13 t504.length co13) : Value).ownBlock ∧ some k_ ≠ ((.slice Ao15 t508.length co15) : Value).ownBlock ∧ some k_ ≠ ((.slice Ao21 t514.length co21) : Value).ownBlock ∧ some k_ ≠ ((.slice Ao30 t520.length co30) : Value).ownBlock) (.slice Ao63 t527.length co63) t527) ∧ Aside0 (wc.heap[gb511]? = some (.cells #[.int .i64 t503, (.slice Ao13 t504.length co13)] 26 (0, 0))) ∧ Aside0 (wc.heap[gb512]? = some (.cells #[.int .i64 t507, (.slice Ao15 t508.length co15)] 26 (0, 0))) ∧ Aside0 (wc.heap[gb518]? = some (.cells #[.int .i64 t513, (.slice Ao21 t514.length co21)] 26 (0, 0))) ∧ Aside0 (wc.heap[gb524]? = some (.cells #[.int .i64 t519, (.slice Ao30 t520.length co30)] 26 (0, 0))) ∧ Aside0 (wc.heap[gb531]? = some (.cells #[.int .i64 t526, (.slice Ao63 t527.length co63)] 26 (0, 0))) ∧ Aside0 (Below w.heap.size w wc))
            case first => as_aux_lemma =>
             have H := HC103.out
             clear HC103
             by_cases c104 : x22_5 < (t544.length : Int)
             ·rw [if_pos c104] at H
              have c104b0 : decide (x22_5 < (t544.length : Int)) = true := decide_eq_true c104
              clear c104
              (first | rw [c104b0] | (simp only [i64_w, i32_w]; rw [c104b0]) | skip)
              have H' := zA H
              clear H
              obtain ⟨Ao105, co105, eo105⟩ := kM HO_17.out
              subst eo105
              go_wp2
              go_meet
              case rel => exact ⟨_, (true), zs, H', ⟨by have := HJ6.out; have := HJ47.out; have := HK3.out; have := HK4.out; have := HK5.out; first | omega | exact Nat.le_refl _⟩, ⟨zP HO_11.out⟩, ⟨zP HO_13.out⟩, ⟨zP HO_17.out⟩, ⟨zP HO_512001.out⟩, ⟨zP HO_513001.out⟩, ⟨zP HO_519001.out⟩, ⟨zP HO_525001.out⟩, ⟨zP HO_532001.out⟩, ⟨zR BK511.out⟩, ⟨zR BK512.out⟩, ⟨zR BK518.out⟩, ⟨zR BK524.out⟩, ⟨zR BK531.out⟩, ⟨by repeat (first | (with_reducible first | exact HB.out | apply zB | apply zC | apply zD | refine zE ?_ GE511.out | refine zE ?_ GE512.out | refine zE ?_ GE518.out | refine zE ?_ GE524.out | refine zE ?_ GE531.out) | exact HB.out)⟩⟩
             rw [if_neg c104] at H
             have c104b0 : decide (x22_5 < (t544.length : Int)) = false := decide_eq_false c104
             clear c104
             (first | rw [c104b0] | (simp only [i64_w, i32_w]; rw [c104b0]) | skip)
             by_cases c106 : x22_5 < (t532.length : Int)
             ·rw [if_pos c106] at H
              have c106b0 : decide (x22_5 < (t532.length : Int)) = true := decide_eq_true c106
              clear c106
              have H' := zA H
              clear H
              obtain ⟨Ao107, co107, eo107⟩ := kM HO_17.out
              subst eo107
              go_wp2
              go_meet
              case rel => exact ⟨_, (true), zs, H', ⟨by have := HJ6.out; have := HJ47.out; have := HK3.out; have := HK4.out; have := HK5.out; first | omega | exact Nat.le_refl _⟩, ⟨zP HO_11.out⟩, ⟨zP HO_13.out⟩, ⟨zP HO_17.out⟩, ⟨zP HO_512001.out⟩, ⟨zP HO_513001.out⟩, ⟨zP HO_519001.out⟩, ⟨zP HO_525001.out⟩, ⟨zP HO_532001.out⟩, ⟨zR BK511.out⟩, ⟨zR BK512.out⟩, ⟨zR BK518.out⟩, ⟨zR BK524.out⟩, ⟨zR BK531.out⟩, ⟨by repeat (first | (with_reducible first | exact HB.out | apply zB | apply zC | apply zD | refine zE ?_ GE511.out | refine zE ?_ GE512.out | refine zE ?_ GE518.out | refine zE ?_ GE524.out | refine zE ?_ GE531.out) | exact HB.out)⟩⟩
             rw [if_neg c106] at H
             have c106b0 : decide (x22_5 < (t532.length : Int)) = false := decide_eq_false c106
             clear c106
             have H' := zA H
             clear H
             obtain ⟨Ao108, co108, eo108⟩ := kM HO_17.out
             subst eo108
             obtain ⟨Ao109, co109, eo109⟩ := kM HO_13.out
             subst eo109
             go_wp2
             go_meet
             case rel => exact ⟨_, (decide (x22_5 < (t536.length : Int))), zs, H', ⟨by have := HJ6.out; have := HJ47.out; have := HK3.out; have := HK4.out; have := HK5.out; first | omega | exact Nat.le_refl _⟩, ⟨zP HO_11.out⟩, ⟨zP HO_13.out⟩, ⟨zP HO_17.out⟩, ⟨zP HO_512001.out⟩, ⟨zP HO_513001.out⟩, ⟨zP HO_519001.out⟩, ⟨zP HO_525001.out⟩, ⟨zP HO_532001.out⟩, ⟨zR BK511.out⟩, ⟨zR BK512.out⟩, ⟨zR BK518.out⟩, ⟨zR BK524.out⟩, ⟨zR BK531.out⟩, ⟨by repeat (first | (with_reducible first | exact HB.out | apply zB | apply zC | apply zD | refine zE ?_ GE511.out | refine zE ?_ GE512.out | refine zE ?_ GE518.out | refine zE ?_ GE524.out | refine zE ?_ GE531.out) | exact HB.out)⟩⟩
            case rest =>
             clear HC103
             try clear c1
             try clear c2
             try clear c3
             try clear c4
             try clear c5
             try clear hx5
             try clear c6
             try clear c7
             try clear c8
             try clear c9
             try clear hx9
             try clear hf9
             try clear c10
             try clear c11
             try clear c18
             try clear c19
             try clear c26
             try clear c27
             try clear c28
             try clear c31
             try clear c33
             try clear c34
             try clear c35
             try clear c37
             try clear c38
             try clear c41
             try clear c42
             try clear c49
             try clear c50
             try clear c51
             try clear c53
             try clear c54
             try clear hx54
             try clear hx55
             try clear c58
             try clear c59
             try clear c60
             try clear c61
             try clear c68
             try clear c73
             try clear c74
             try clear c75
             try clear c76
             try clear c77
             try clear c81
             try clear c82
             try clear c84
             try clear c86
             try clear c87
             try clear c88
             try clear c89
             try clear c90
             try clear hx91
             try clear hf91
             try clear c98
             try clear c99
             try clear c100
             try clear c104
             try clear c106
             try clear hcz12_0
             try clear hcz12_1
             try clear hcz14_0
             try clear hcz14_1
             try clear hcz20_0
             try clear hcz20_1
             try clear hcz22_0
             try clear hcz22_1
             try clear hcz23_0
             try clear hcz23_1
             try clear hcz29_0
             try clear hcz29_1
             try clear hcz36_0
             try clear hcz36_1
             try clear hcz39_0
             try clear hcz39_1
             try clear hcz52_0
             try clear hcz52_1
             try clear hcz55_0
             try clear hcz55_1
             try clear hcz62_0
             try clear hcz62_1
             try clear hcz64_0
             try clear hcz64_1
             try clear hcz66_0
             try clear hcz66_1
             try clear hcz69_0
             try clear hcz69_1
             try clear hcz71_0
             try clear hcz71_1
             try clear hfz12_0
             try clear hfz12_1
             try clear hfz14_0
             try clear hfz14_1
             try clear hfz20_0
             try clear hfz20_1
             try clear hfz22_0
             try clear hfz22_1
             try clear hfz23_0
             try clear hfz23_1
             try clear hfz29_0
             try clear hfz29_1
             try clear hfz36_0
             try clear hfz36_1
             try clear hfz39_0
             try clear hfz39_1
             try clear hfz52_0
             try clear hfz52_1
             try clear hfz55_0
             try clear hfz55_1
             try clear hfz62_0
             try clear hfz62_1
             try clear hfz64_0
             try clear hfz64_1
             try clear hfz66_0
             try clear hfz66_1
             try clear hfz69_0
             try clear hfz69_1
             try clear hfz71_0
             try clear hfz71_1
             try clear hx548_0
             try clear hx549_0
             try clear hx550_0
             try clear hx552_0
             try clear hx91_0
             obtain ⟨kq, x168_102, rfl, HA, HJ102, HO_11, HO_13, HO_17, HO_512001, HO_513001, HO_519001, HO_525001, HO_532001, BK511, BK512, BK518, BK524, BK531, HB⟩ := hcut
             cases kq with
             | zero => exact absurd HA.out (by simp [laws_FnProductCounts.j6])
             | succ kj102 =>
              have H := HA.out
              clear HA
              simp only [laws_FnProductCounts.j6] at H
              by_cases c110 : x168_102 = true
              ·subst c110
               rw [if_pos rfl] at H
               have HC111 := zA H
               clear H
               obtain ⟨Ao112, co112, eo112⟩ := kM HO_17.out
               subst eo112
               go_upto_if 174 with (fail)
               go_cut [23] (fun v23 wc => ∃ (kq : Nat) (x23_110 : Int), v23 = .int .i64 x23_110 ∧ Aside0 (laws_FnProductCounts.j7 kq t532 t536 t544 x22_5 x23_110 = some r) ∧ Aside0 (kq ≤ kj102) ∧ Aside0 (Kd.R (Kd.int .i64) 2 wc w.heap.size (fun k_ => some k_ ≠ (v537 : Value).ownBlock ∧ some k_ ≠ ((.slice Ao112 t544.length co112) : Value).ownBlock ∧ some k_ ≠ ((.slice Ao13 t504.length co13) : Value).ownBlock ∧ some k_ ≠ ((.slice Ao15 t508.length co15) : Value).ownBlock ∧ some k_ ≠ ((.slice Ao21 t514.length co21) : Value).ownBlock ∧ some k_ ≠ ((.slice Ao30 t520.length co30) : Value).ownBlock ∧ some k_ ≠ ((.slice Ao63 t527.length co63) : Value).ownBlock) (.slice Ao97 t532.length co97) t532) ∧ Aside0 (Kd.R (Kd.int .i64) 2 wc w.heap.size (fun k_ => some k_ ≠ ((.slice Ao97 t532.length co97) : Value).ownBlock ∧ some k_ ≠ ((.slice Ao112 t544.length co112) : Value).ownBlock ∧ some k_ ≠ ((.slice Ao13 t504.length co13) : Value).ownBlock ∧ some k_ ≠ ((.slice Ao15 t508.length co15) : Value).ownBlock ∧ some k_ ≠ ((.slice Ao21 t514.length co21) : Value).ownBlock ∧ some k_ ≠ ((.slice Ao30 t520.length co30) : Value).ownBlock ∧ some k_ ≠ ((.slice Ao63 t527.length co63) : Value).ownBlock) v537 t536) ∧ Aside0 (Kd.R (Kd.int .i64) 2 wc w.heap.size (fun k_ => some k_ ≠ ((.slice Ao97 t532.length co97) : Value).ownBlock ∧ some k_ ≠ (v537 : Value).ownBlock ∧ some k_ ≠ ((.slice Ao13 t504.length co13) : Value).ownBlock ∧ some k_ ≠ ((.slice Ao15 t508.length co15) : Value).ownBlock ∧ some k_ ≠ ((.slice Ao21 t514.length co21) : Value).ownBlock ∧ some k_ ≠ ((.slice Ao30 t520.length co30) : Value).ownBlock ∧ some k_ ≠ ((.slice Ao63 t527.length co63) : Value).ownBlock) (.slice Ao112 t544.length co112) t544) ∧ Aside0 (Kd.R (Kd.int .i64) 2 wc w.heap.size (fun k_ => some k_ ≠ ((.slice Ao97 t532.length co97) : Value).ownBlock ∧ some k_ ≠ (v537 : Value).ownBlock ∧ some k_ ≠ ((.slice Ao112 t544.length co112) : Value).ownBlock ∧ some k_ ≠ ((.slice Ao15 t508.length co15) : Value).ownBlock ∧ some k_ ≠ ((.slice Ao21 t514.length co21) : Value).ownBlock ∧ some k_ ≠ ((.slice Ao30 t520.length co30) : Value).ownBlock ∧ some k_ ≠ ((.slice Ao63 t527.length co63) : Value).ownBlock) (.slice Ao13 t504.length co13) t504) ∧ Aside0 (Kd.R (Kd.int .i64) 2 wc w.heap.size (fun k_ => some k_ ≠ ((.slice Ao97 t532.length co97) : Value).ownBlock ∧ some k_ ≠ (v537 : Value).ownBlock ∧ some k_ ≠ ((.slice Ao112 t544.length co112) : Value).ownBlock ∧ some k_ ≠ ((.slice Ao13 t504.length co13) : Value).ownBlock ∧ some k_ ≠ ((.slice Ao21 t514.length co21) : Value).ownBlock ∧ some k_ ≠ ((.slice Ao30 t520.length co30) : Value).ownBlock ∧ some k_ ≠ ((.slice Ao63 t527.length co63) : Value).ownBlock) (.slice Ao15 t508.length co15) t508) ∧ Aside0 (Kd.R (Kd.int .i64) 2 wc w.heap.size (fun k_ => some k_ ≠ ((.slice Ao97 t532.length co97) : Value).ownBlock ∧ some k_ ≠ (v537 : Value).ownBlock ∧ some k_ ≠ ((.slice Ao112 t544.length co112) : Value).ownBlock ∧ some k_ ≠ ((.slice Ao13 t504.length co13) : Value).ownBlock ∧ some k_ ≠ ((.slice Ao15 t508.length co15) : Value).ownBlock ∧ some k_ ≠ ((.slice Ao30 t520.length co30) : Value).ownBlock ∧ some k_ ≠ ((.slice Ao63 t527.length co63) : Value).ownBlock) (.slice Ao21 t514.length co21) t514) ∧ Aside0 (Kd.R (Kd.int .i64) 2 wc w.heap.size (fun k_ => some k_ ≠ ((.slice Ao97 t532.length co97) : Value).ownBlock ∧ some k_ ≠ (v537 : Value).ownBlock ∧ some k_ ≠ ((.slice Ao112 t544.length co112) : Value).ownBlock ∧ some k_ ≠ ((.slice Ao13 t504.length co13) : Value).ownBlock ∧ some k_ ≠ ((.slice Ao15 t508.length co15) : Value).ownBlock ∧ some k_ ≠ ((.slice Ao21 t514.length co21) : Value).ownBlock ∧ some k_ ≠ ((.slice Ao63 t527.length co63) : Value).ownBlock) (.slice Ao30 t520.length co30) t520) ∧ Aside0 (Kd.R (Kd.int .i64) 2 wc w.heap.size (fun k_ => some k_ ≠ ((.slice Ao97 t532.length co97) : Value).ownBlock ∧ some k_ ≠ (v537 : Value).ownBlock ∧ some k_ ≠ ((.slice Ao112 t544.length co112) : Value).ownBlock ∧ some k_ ≠ ((.slice Ao13 t504.length co13) : Value).ownBlock ∧ some k_ ≠ ((.slice Ao15 t508.length co15) : Value).ownBlock ∧ some k_ ≠ ((.slice Ao21 t514.length co21) : Value).ownBlock ∧ some k_ ≠ ((.slice Ao30 t520.length co30) : Value).ownBlock) (.slice Ao63 t527.length co63) t527) ∧ Aside0 (wc.heap[gb511]? = some (.cells #[.int .i64 t503, (.slice Ao13 t504.length co13)] 26 (0, 0))) ∧ Aside0 (wc.heap[gb512]? = some (.cells #[.int .i64 t507, (.slice Ao15 t508.length co15)] 26 (0, 0))) ∧ Aside0 (wc.heap[gb518]? = some (.cells #[.int .i64 t513, (.slice Ao21 t514.length co21)] 26 (0, 0))) ∧ Aside0 (wc.heap[gb524]? = some (.cells #[.int .i64 t519, (.slice Ao30 t520.length co30)] 26 (0, 0))) ∧ Aside0 (wc.heap[gb531]? = some (.cells #[.int .i64 t526, (.slice Ao63 t527.length co63)] 26 (0, 0))) ∧ Aside0 (Below w.heap.size w wc))
               case first => as_aux_lemma =>
                have H := HC111.out
                clear HC111
                by_cases c113 : x22_5 < (t544.length : Int)
                ·rw [if_pos c113] at H
                 have c113b0 : decide (x22_5 < (t544.length : Int)) = true := decide_eq_true c113
                 clear c113
                 (first | rw [c113b0] | (simp only [i64_w, i32_w]; rw [c113b0]) | skip)
                 by_cases c114 : 0 ≤ x22_5
                 ·rw [if_pos c114] at H
                  have c114b0 : decide (0 ≤ x22_5) = true := decide_eq_true c114
                  clear c114
                  have H' := zA H
                  clear H
                  have p553 : 0 ≤ (x22_5 : Int) := zd
                  have q553 : x22_5 < (t544.length : Int) := zd
                  obtain ⟨ad553, e553, hx553_0⟩ := Kd.at_int (kB HO_17.out).2.2 x22_5 p553 q553
                  cases e553
                  replace p553 := eq_true p553
                  replace q553 := eq_true q553
                  go_wp2
                  go_meet
                  case rel => exact ⟨_, (rd t544 x22_5), zs, H', ⟨by have := HJ6.out; have := HJ47.out; have := HK3.out; have := HK4.out; have := HK5.out; have := HJ102.out; first | omega | exact Nat.le_refl _⟩, ⟨zP HO_11.out⟩, ⟨zP HO_13.out⟩, ⟨zP HO_17.out⟩, ⟨zP HO_512001.out⟩, ⟨zP HO_513001.out⟩, ⟨zP HO_519001.out⟩, ⟨zP HO_525001.out⟩, ⟨zP HO_532001.out⟩, ⟨zR BK511.out⟩, ⟨zR BK512.out⟩, ⟨zR BK518.out⟩, ⟨zR BK524.out⟩, ⟨zR BK531.out⟩, ⟨by repeat (first | (with_reducible first | exact HB.out | apply zB | apply zC | apply zD | refine zE ?_ GE511.out | refine zE ?_ GE512.out | refine zE ?_ GE518.out | refine zE ?_ GE524.out | refine zE ?_ GE531.out) | exact HB.out)⟩⟩
                 rw [if_neg c114] at H
                 exact absurd H (by simp)
                rw [if_neg c113] at H
                have c113b0 : decide (x22_5 < (t544.length : Int)) = false := decide_eq_false c113
                clear c113
                (first | rw [c113b0] | (simp only [i64_w, i32_w]; rw [c113b0]) | skip)
                have H' := zA H
                clear H
                go_wp2
                go_meet
                case rel => exact ⟨_, (0), zs, H', ⟨by have := HJ6.out; have := HJ47.out; have := HK3.out; have := HK4.out; have := HK5.out; have := HJ102.out; first | omega | exact Nat.le_refl _⟩, ⟨zP HO_11.out⟩, ⟨zP HO_13.out⟩, ⟨zP HO_17.out⟩, ⟨zP HO_512001.out⟩, ⟨zP HO_513001.out⟩, ⟨zP HO_519001.out⟩, ⟨zP HO_525001.out⟩, ⟨zP HO_532001.out⟩, ⟨zR BK511.out⟩, ⟨zR BK512.out⟩, ⟨zR BK518.out⟩, ⟨zR BK524.out⟩, ⟨zR BK531.out⟩, ⟨by repeat (first | (with_reducible first | exact HB.out | apply zB | apply zC | apply zD | refine zE ?_ GE511.out | refine zE ?_ GE512.out | refine zE ?_ GE518.out | refine zE ?_ GE524.out | refine zE ?_ GE531.out) | exact HB.out)⟩⟩
               case rest =>
                clear HC111
                try clear c1
                try clear c2
                try clear c3
                try clear c4
                try clear c5
                try clear hx5
                try clear c6
                try clear c7
                try clear c8
                try clear c9
                try clear hx9
                try clear hf9
                try clear c10
                try clear c11
                try clear c18
                try clear c19
                try clear c26
                try clear c27
                try clear c28
                try clear c31
                try clear c33
                try clear c34
                try clear c35
                try clear c37
                try clear c38
                try clear c41
                try clear c42
                try clear c49
                try clear c50
                try clear c51
                try clear c53
                try clear c54
                try clear hx54
                try clear hx55
                try clear c58
                try clear c59
                try clear c60
                try clear c61
                try clear c68
                try clear c73
                try clear c74
                try clear c75
                try clear c76
                try clear c77
                try clear c81
                try clear c82
                try clear c84
                try clear c86
                try clear c87
                try clear c88
                try clear c89
                try clear c90
                try clear hx91
                try clear hf91
                try clear c98
                try clear c99
                try clear c100
                try clear c104
                try clear c106
                try clear c110
                try clear c113
                try clear c114
                try clear hcz12_0
                try clear hcz12_1
                try clear hcz14_0
                try clear hcz14_1
                try clear hcz20_0
                try clear hcz20_1
                try clear hcz22_0
                try clear hcz22_1
                try clear hcz23_0
                try clear hcz23_1
                try clear hcz29_0
                try clear hcz29_1
                try clear hcz36_0
                try clear hcz36_1
                try clear hcz39_0
                try clear hcz39_1
                try clear hcz52_0
                try clear hcz52_1
                try clear hcz55_0
                try clear hcz55_1
                try clear hcz62_0
                try clear hcz62_1
                try clear hcz64_0
                try clear hcz64_1
                try clear hcz66_0
                try clear hcz66_1
                try clear hcz69_0
                try clear hcz69_1
                try clear hcz71_0
                try clear hcz71_1
                try clear hfz12_0
                try clear hfz12_1
                try clear hfz14_0
                try clear hfz14_1
                try clear hfz20_0
                try clear hfz20_1
                try clear hfz22_0
                try clear hfz22_1
                try clear hfz23_0
                try clear hfz23_1
                try clear hfz29_0
                try clear hfz29_1
                try clear hfz36_0
                try clear hfz36_1
                try clear hfz39_0
                try clear hfz39_1
                try clear hfz52_0
                try clear hfz52_1
                try clear hfz55_0
                try clear hfz55_1
                try clear hfz62_0
                try clear hfz62_1
                try clear hfz64_0
                try clear hfz64_1
                try clear hfz66_0
                try clear hfz66_1
                try clear hfz69_0
                try clear hfz69_1
                try clear hfz71_0
                try clear hfz71_1
                try clear hx548_0
                try clear hx549_0
                try clear hx550_0
                try clear hx552_0
                try clear hx553_0
                try clear hx91_0
                obtain ⟨kq, x23_110, rfl, HA, HJ110, HO_11, HO_13, HO_17, HO_512001, HO_513001, HO_519001, HO_525001, HO_532001, BK511, BK512, BK518, BK524, BK531, HB⟩ := hcut
                cases kq with
                | zero => exact absurd HA.out (by simp [laws_FnProductCounts.j7])
                | succ kj110 =>
                 have H := HA.out
                 clear HA
                 simp only [laws_FnProductCounts.j7] at H
                 have HC115 := zA H
                 clear H
                 go_upto_if 182 with (fail)
                 go_cut [23] (fun v23 wc => ∃ (kq : Nat) (x23_114 : Int), v23 = .int .i64 x23_114 ∧ Aside0 (laws_FnProductCounts.j8 kq t532 t536 t544 x22_5 x23_114 = some r) ∧ Aside0 (kq ≤ kj110) ∧ Aside0 (Kd.R (Kd.int .i64) 2 wc w.heap.size (fun k_ => some k_ ≠ (v537 : Value).ownBlock ∧ some k_ ≠ ((.slice Ao112 t544.length co112) : Value).ownBlock ∧ some k_ ≠ ((.slice Ao13 t504.length co13) : Value).ownBlock ∧ some k_ ≠ ((.slice Ao15 t508.length co15) : Value).ownBlock ∧ some k_ ≠ ((.slice Ao21 t514.length co21) : Value).ownBlock ∧ some k_ ≠ ((.slice Ao30 t520.length co30) : Value).ownBlock ∧ some k_ ≠ ((.slice Ao63 t527.length co63) : Value).ownBlock) (.slice Ao97 t532.length co97) t532) ∧ Aside0 (Kd.R (Kd.int .i64) 2 wc w.heap.size (fun k_ => some k_ ≠ ((.slice Ao97 t532.length co97) : Value).ownBlock ∧ some k_ ≠ ((.slice Ao112 t544.length co112) : Value).ownBlock ∧ some k_ ≠ ((.slice Ao13 t504.length co13) : Value).ownBlock ∧ some k_ ≠ ((.slice Ao15 t508.length co15) : Value).ownBlock ∧ some k_ ≠ ((.slice Ao21 t514.length co21) : Value).ownBlock ∧ some k_ ≠ ((.slice Ao30 t520.length co30) : Value).ownBlock ∧ some k_ ≠ ((.slice Ao63 t527.length co63) : Value).ownBlock) v537 t536) ∧ Aside0 (Kd.R (Kd.int .i64) 2 wc w.heap.size (fun k_ => some k_ ≠ ((.slice Ao97 t532.length co97) : Value).ownBlock ∧ some k_ ≠ (v537 : Value).ownBlock ∧ some k_ ≠ ((.slice Ao13 t504.length co13) : Value).ownBlock ∧ some k_ ≠ ((.slice Ao15 t508.length co15) : Value).ownBlock ∧ some k_ ≠ ((.slice Ao21 t514.length co21) : Value).ownBlock ∧ some k_ ≠ ((.slice Ao30 t520.length co30) : Value).ownBlock ∧ some k_ ≠ ((.slice Ao63 t527.length co63) : Value).ownBlock) (.slice Ao112 t544.length co112) t544) ∧ Aside0 (Kd.R (Kd.int .i64) 2 wc w.heap.size (fun k_ => some k_ ≠ ((.slice Ao97 t532.length co97) : Value).ownBlock ∧ some k_ ≠ (v537 : Value).ownBlock ∧ some k_ ≠ ((.slice Ao112 t544.length co112) : Value).ownBlock ∧ some k_ ≠ ((.slice Ao15 t508.length co15) : Value).ownBlock ∧ some k_ ≠ ((.slice Ao21 t514.length co21) : Value).ownBlock ∧ some k_ ≠ ((.slice Ao30 t520.length co30) : Value).ownBlock ∧ some k_ ≠ ((.slice Ao63 t527.length co63) : Value).ownBlock) (.slice Ao13 t504.length co13) t504) ∧ Aside0 (Kd.R (Kd.int .i64) 2 wc w.heap.size (fun k_ => some k_ ≠ ((.slice Ao97 t532.length co97) : Value).ownBlock ∧ some k_ ≠ (v537 : Value).ownBlock ∧ some k_ ≠ ((.slice Ao112 t544.length co112) : Value).ownBlock ∧ some k_ ≠ ((.slice Ao13 t504.length co13) : Value).ownBlock ∧ some k_ ≠ ((.slice Ao21 t514.length co21) : Value).ownBlock ∧ some k_ ≠ ((.slice Ao30 t520.length co30) : Value).ownBlock ∧ some k_ ≠ ((.slice Ao63 t527.length co63) : Value).ownBlock) (.slice Ao15 t508.length co15) t508) ∧ Aside0 (Kd.R (Kd.int .i64) 2 wc w.heap.size (fun k_ => some k_ ≠ ((.slice Ao97 t532.length co97) : Value).ownBlock ∧ some k_ ≠ (v537 : Value).ownBlock ∧ some k_ ≠ ((.slice Ao112 t544.length co112) : Value).ownBlock ∧ some k_ ≠ ((.slice Ao13 t504.length co13) : Value).ownBlock ∧ some k_ ≠ ((.slice Ao15 t508.length co15) : Value).ownBlock ∧ some k_ ≠ ((.slice Ao30 t520.length co30) : Value).ownBlock ∧ some k_ ≠ ((.slice Ao63 t527.length co63) : Value).ownBlock) (.slice Ao21 t514.length co21) t514) ∧ Aside0 (Kd.R (Kd.int .i64) 2 wc w.heap.size (fun k_ => some k_ ≠ ((.slice Ao97 t532.length co97) : Value).ownBlock ∧ some k_ ≠ (v537 : Value).ownBlock ∧ some k_ ≠ ((.slice Ao112 t544.length co112) : Value).ownBlock ∧ some k_ ≠ ((.slice Ao13 t504.length co13) : Value).ownBlock ∧ some k_ ≠ ((.slice Ao15 t508.length co15) : Value).ownBlock ∧ some k_ ≠ ((.slice Ao21 t514.length co21) : Value).ownBlock ∧ some k_ ≠ ((.slice Ao63 t527.length co63) : Value).ownBlock) (.slice Ao30 t520.length co30) t520) ∧ Aside0 (Kd.R (Kd.int .i64) 2 wc w.heap.size (fun k_ => some k_ ≠ ((.slice Ao97 t532.length co97) : Value).ownBlock ∧ some k_ ≠ (v537 : Value).ownBlock ∧ some k_ ≠ ((.slice Ao112 t544.length co112) : Value).ownBlock ∧ some k_ ≠ ((.slice Ao13 t504.length co13) : Value).ownBlock ∧ some k_ ≠ ((.slice Ao15 t508.length co15) : Value).ownBlock ∧ some k_ ≠ ((.slice Ao21 t514.length co21) : Value).ownBlock ∧ some k_ ≠ ((.slice Ao30 t520.length co30) : Value).ownBlock) (.slice Ao63 t527.length co63) t527) ∧ Aside0 (wc.heap[gb511]? = some (.cells #[.int .i64 t503, (.slice Ao13 t504.length co13)] 26 (0, 0))) ∧ Aside0 (wc.heap[gb512]? = some (.cells #[.int .i64 t507, (.slice Ao15 t508.length co15)] 26 (0, 0))) ∧ Aside0 (wc.heap[gb518]? = some (.cells #[.int .i64 t513, (.slice Ao21 t514.length co21)] 26 (0, 0))) ∧ Aside0 (wc.heap[gb524]? = some (.cells #[.int .i64 t519, (.slice Ao30 t520.length co30)] 26 (0, 0))) ∧ Aside0 (wc.heap[gb531]? = some (.cells #[.int .i64 t526, (.slice Ao63 t527.length co63)] 26 (0, 0))) ∧ Aside0 (Below w.heap.size w wc))
                 case first => as_aux_lemma =>
                  have H := HC115.out
                  clear HC115
                  by_cases c116 : x22_5 < (t532.length : Int)
                  ·rw [if_pos c116] at H
                   have c116b0 : decide (x22_5 < (t532.length : Int)) = true := decide_eq_true c116
                   clear c116
                   (first | rw [c116b0] | (simp only [i64_w, i32_w]; rw [c116b0]) | skip)
                   by_cases c117 : 0 ≤ x22_5
                   ·rw [if_pos c117] at H
                    have c117b0 : decide (0 ≤ x22_5) = true := decide_eq_true c117
                    clear c117
                    have H' := zA H
                    clear H
                    have p554 : 0 ≤ (x22_5 : Int) := zd
                    have q554 : x22_5 < (t532.length : Int) := zd
                    obtain ⟨ad554, e554, hx554_0⟩ := Kd.at_int (kB HO_11.out).2.2 x22_5 p554 q554
                    cases e554
                    replace p554 := eq_true p554
                    replace q554 := eq_true q554
                    go_wp2
                    go_meet
                    case rel => exact ⟨_, (wrap64 (x23_110 - (rd t532 x22_5))), zs, H', ⟨by have := HJ6.out; have := HJ47.out; have := HK3.out; have := HK4.out; have := HK5.out; have := HJ102.out; have := HJ110.out; first | omega | exact Nat.le_refl _⟩, ⟨zP HO_11.out⟩, ⟨zP HO_13.out⟩, ⟨zP HO_17.out⟩, ⟨zP HO_512001.out⟩, ⟨zP HO_513001.out⟩, ⟨zP HO_519001.out⟩, ⟨zP HO_525001.out⟩, ⟨zP HO_532001.out⟩, ⟨zR BK511.out⟩, ⟨zR BK512.out⟩, ⟨zR BK518.out⟩, ⟨zR BK524.out⟩, ⟨zR BK531.out⟩, ⟨by repeat (first | (with_reducible first | exact HB.out | apply zB | apply zC | apply zD | refine zE ?_ GE511.out | refine zE ?_ GE512.out | refine zE ?_ GE518.out | refine zE ?_ GE524.out | refine zE ?_ GE531.out) | exact HB.out)⟩⟩
                   rw [if_neg c117] at H
                   exact absurd H (by simp)
                  rw [if_neg c116] at H
                  have c116b0 : decide (x22_5 < (t532.length : Int)) = false := decide_eq_false c116
                  clear c116
                  (first | rw [c116b0] | (simp only [i64_w, i32_w]; rw [c116b0]) | skip)
                  have H' := zA H
                  clear H
                  go_wp2
                  go_meet
                  case rel => exact ⟨_, (x23_110), zs, H', ⟨by have := HJ6.out; have := HJ47.out; have := HK3.out; have := HK4.out; have := HK5.out; have := HJ102.out; have := HJ110.out; first | omega | exact Nat.le_refl _⟩, ⟨zP HO_11.out⟩, ⟨zP HO_13.out⟩, ⟨zP HO_17.out⟩, ⟨zP HO_512001.out⟩, ⟨zP HO_513001.out⟩, ⟨zP HO_519001.out⟩, ⟨zP HO_525001.out⟩, ⟨zP HO_532001.out⟩, ⟨zR BK511.out⟩, ⟨zR BK512.out⟩, ⟨zR BK518.out⟩, ⟨zR BK524.out⟩, ⟨zR BK531.out⟩, ⟨by repeat (first | (with_reducible first | exact HB.out | apply zB | apply zC | apply zD | refine zE ?_ GE511.out | refine zE ?_ GE512.out | refine zE ?_ GE518.out | refine zE ?_ GE524.out | refine zE ?_ GE531.out) | exact HB.out)⟩⟩
                 case rest =>
                  clear HC115
                  try clear c1
                  try clear c2
                  try clear c3
                  try clear c4
                  try clear c5
                  try clear hx5
                  try clear c6
                  try clear c7
                  try clear c8
                  try clear c9
                  try clear hx9
                  try clear hf9
                  try clear c10
                  try clear c11
                  try clear c18
                  try clear c19
                  try clear c26
                  try clear c27
                  try clear c28
                  try clear c31
                  try clear c33
                  try clear c34
                  try clear c35
                  try clear c37
                  try clear c38
                  try clear c41
                  try clear c42
                  try clear c49
                  try clear c50
                  try clear c51
                  try clear c53
                  try clear c54
                  try clear hx54
                  try clear hx55
                  try clear c58
                  try clear c59
                  try clear c60
                  try clear c61
                  try clear c68
                  try clear c73
                  try clear c74
                  try clear c75
                  try clear c76
                  try clear c77
                  try clear c81
                  try clear c82
                  try clear c84
                  try clear c86
                  try clear c87
                  try clear c88
                  try clear c89
                  try clear c90
                  try clear hx91
                  try clear hf91
                  try clear c98
                  try clear c99
                  try clear c100
                  try clear c104
                  try clear c106
                  try clear c110
                  try clear c113
                  try clear c114
                  try clear c116
                  try clear c117
                  try clear hcz12_0
                  try clear hcz12_1
                  try clear hcz14_0
                  try clear hcz14_1
                  try clear hcz20_0
                  try clear hcz20_1
                  try clear hcz22_0
                  try clear hcz22_1
                  try clear hcz23_0
                  try clear hcz23_1
                  try clear hcz29_0
                  try clear hcz29_1
                  try clear hcz36_0
                  try clear hcz36_1
                  try clear hcz39_0
                  try clear hcz39_1
                  try clear hcz52_0
                  try clear hcz52_1
                  try clear hcz55_0
                  try clear hcz55_1
                  try clear hcz62_0
                  try clear hcz62_1
                  try clear hcz64_0
                  try clear hcz64_1
                  try clear hcz66_0
                  try clear hcz66_1
                  try clear hcz69_0
                  try clear hcz69_1
                  try clear hcz71_0
                  try clear hcz71_1
                  try clear hfz12_0
                  try clear hfz12_1
                  try clear hfz14_0
                  try clear hfz14_1
                  try clear hfz20_0
                  try clear hfz20_1
                  try clear hfz22_0
                  try clear hfz22_1
                  try clear hfz23_0
                  try clear hfz23_1
                  try clear hfz29_0
                  try clear hfz29_1
                  try clear hfz36_0
                  try clear hfz36_1
                  try clear hfz39_0
                  try clear hfz39_1
                  try clear hfz52_0
                  try clear hfz52_1
                  try clear hfz55_0
                  try clear hfz55_1
                  try clear hfz62_0
                  try clear hfz62_1
                  try clear hfz64_0
                  try clear hfz64_1
                  try clear hfz66_0
                  try clear hfz66_1
                  try clear hfz69_0
                  try clear hfz69_1
                  try clear hfz71_0
                  try clear hfz71_1
                  try clear hx548_0
                  try clear hx549_0
                  try clear hx550_0
                  try clear hx552_0
                  try clear hx553_0
                  try clear hx554_0
                  try clear hx91_0
                  obtain ⟨kq, x23_114, rfl, HA, HJ114, HO_11, HO_13, HO_17, HO_512001, HO_513001, HO_519001, HO_525001, HO_532001, BK511, BK512, BK518, BK524, BK531, HB⟩ := hcut
                  cases kq with
                  | zero => exact absurd HA.out (by simp [laws_FnProductCounts.j8])
                  | succ kj114 =>
                   have H := HA.out
                   clear HA
                   simp only [laws_FnProductCounts.j8] at H
                   by_cases c118 : x22_5 < (t536.length : Int)
                   ·rw [if_pos c118] at H
                    have c118b0 : decide (x22_5 < (t536.length : Int)) = true := decide_eq_true c118
                    clear c118
                    by_cases c119 : 0 ≤ x22_5
                    ·rw [if_pos c119] at H
                     have c119b0 : decide (0 ≤ x22_5) = true := decide_eq_true c119
                     clear c119
                     by_cases c120 : x22_5 = 0
                     ·rw [if_pos c120] at H
                      obtain ⟨c120b0, c120b1⟩ := zT1 c120
                      clear c120
                      by_cases c121 : (wrap64 (x23_114 - (rd t536 x22_5))) = (-1)
                      ·rw [if_pos c121] at H
                       obtain ⟨c121b0, c121b1⟩ := zT1 c121
                       clear c121
                       by_cases c122 : x22_5 > 0
                       ·rw [if_pos c122] at H
                        have c122b0 : decide (0 < x22_5) = true := decide_eq_true c122
                        clear c122
                        by_cases c123 : (wrap64 (x23_114 - (rd t536 x22_5))) = 0
                        ·rw [if_pos c123] at H
                         obtain ⟨c123b0, c123b1⟩ := zT1 c123
                         clear c123
                         have H' := zA H
                         clear H
                         obtain ⟨Ao124, co124, eo124⟩ := kM HO_13.out
                         subst eo124
                         have p555 : 0 ≤ (x22_5 : Int) := zd
                         have q555 : x22_5 < (t536.length : Int) := zd
                         obtain ⟨ad555, e555, hx555_0⟩ := Kd.at_int (kB HO_13.out).2.2 x22_5 p555 q555
                         cases e555
                         replace p555 := eq_true p555
                         replace q555 := eq_true q555
                         go_wp2
                         go_roundg kj114
                         case measure => have := HJ6.out; have := HJ47.out; have := HK3.out; have := HK4.out; have := HK5.out; have := HJ102.out; have := HJ110.out; have := HJ114.out; omega
                         case rel => exact ⟨(wrap64 (x22_5 + 1)), zs, H', ⟨by have := HJ6.out; have := HJ47.out; have := HK3.out; have := HK4.out; have := HK5.out; have := HJ102.out; have := HJ110.out; have := HJ114.out; omega⟩, ⟨zP HO_11.out⟩, ⟨zP HO_13.out⟩, ⟨zP HO_17.out⟩, ⟨zP HO_512001.out⟩, ⟨zP HO_513001.out⟩, ⟨zP HO_519001.out⟩, ⟨zP HO_525001.out⟩, ⟨zP HO_532001.out⟩, ⟨zR BK511.out⟩, ⟨zR BK512.out⟩, ⟨zR BK518.out⟩, ⟨zR BK524.out⟩, ⟨zR BK531.out⟩, ⟨by repeat (first | (with_reducible first | exact HB.out | apply zB | apply zC | apply zD | refine zE ?_ GE511.out | refine zE ?_ GE512.out | refine zE ?_ GE518.out | refine zE ?_ GE524.out | refine zE ?_ GE531.out) | exact HB.out)⟩⟩
                        rw [if_neg c123] at H
                        exact absurd H (by simp)
                       rw [if_neg c122] at H
                       have c122b0 : decide (0 < x22_5) = false := decide_eq_false c122
                       clear c122
                       have H' := zA H
                       clear H
                       obtain ⟨Ao125, co125, eo125⟩ := kM HO_13.out
                       subst eo125
                       have p555 : 0 ≤ (x22_5 : Int) := zd
                       have q555 : x22_5 < (t536.length : Int) := zd
                       obtain ⟨ad555, e555, hx555_0⟩ := Kd.at_int (kB HO_13.out).2.2 x22_5 p555 q555
                       cases e555
                       replace p555 := eq_true p555
                       replace q555 := eq_true q555
                       go_wp2
                       go_roundg kj114
                       case measure => have := HJ6.out; have := HJ47.out; have := HK3.out; have := HK4.out; have := HK5.out; have := HJ102.out; have := HJ110.out; have := HJ114.out; omega
                       case rel => exact ⟨(wrap64 (x22_5 + 1)), zs, H', ⟨by have := HJ6.out; have := HJ47.out; have := HK3.out; have := HK4.out; have := HK5.out; have := HJ102.out; have := HJ110.out; have := HJ114.out; omega⟩, ⟨zP HO_11.out⟩, ⟨zP HO_13.out⟩, ⟨zP HO_17.out⟩, ⟨zP HO_512001.out⟩, ⟨zP HO_513001.out⟩, ⟨zP HO_519001.out⟩, ⟨zP HO_525001.out⟩, ⟨zP HO_532001.out⟩, ⟨zR BK511.out⟩, ⟨zR BK512.out⟩, ⟨zR BK518.out⟩, ⟨zR BK524.out⟩, ⟨zR BK531.out⟩, ⟨by repeat (first | (with_reducible first | exact HB.out | apply zB | apply zC | apply zD | refine zE ?_ GE511.out | refine zE ?_ GE512.out | refine zE ?_ GE518.out | refine zE ?_ GE524.out | refine zE ?_ GE531.out) | exact HB.out)⟩⟩
                      rw [if_neg c121] at H
                      exact absurd H (by simp)
                     rw [if_neg c120] at H
                     obtain ⟨c120b0, c120b1⟩ := zT2 c120
                     by_cases c126 : x22_5 > 0
                     ·rw [if_pos c126] at H
                      have c126b0 : decide (0 < x22_5) = true := decide_eq_true c126
                      clear c126
                      by_cases c127 : (wrap64 (x23_114 - (rd t536 x22_5))) = 0
                      ·rw [if_pos c127] at H
                       obtain ⟨c127b0, c127b1⟩ := zT1 c127
                       clear c127
                       have H' := zA H
                       clear H
                       obtain ⟨Ao128, co128, eo128⟩ := kM HO_13.out
                       subst eo128
                       have p555 : 0 ≤ (x22_5 : Int) := zd
                       have q555 : x22_5 < (t536.length : Int) := zd
                       obtain ⟨ad555, e555, hx555_0⟩ := Kd.at_int (kB HO_13.out).2.2 x22_5 p555 q555
                       cases e555
                       replace p555 := eq_true p555
                       replace q555 := eq_true q555
                       go_wp2
                       go_roundg kj114
                       case measure => have := HJ6.out; have := HJ47.out; have := HK3.out; have := HK4.out; have := HK5.out; have := HJ102.out; have := HJ110.out; have := HJ114.out; omega
                       case rel => exact ⟨(wrap64 (x22_5 + 1)), zs, H', ⟨by have := HJ6.out; have := HJ47.out; have := HK3.out; have := HK4.out; have := HK5.out; have := HJ102.out; have := HJ110.out; have := HJ114.out; omega⟩, ⟨zP HO_11.out⟩, ⟨zP HO_13.out⟩, ⟨zP HO_17.out⟩, ⟨zP HO_512001.out⟩, ⟨zP HO_513001.out⟩, ⟨zP HO_519001.out⟩, ⟨zP HO_525001.out⟩, ⟨zP HO_532001.out⟩, ⟨zR BK511.out⟩, ⟨zR BK512.out⟩, ⟨zR BK518.out⟩, ⟨zR BK524.out⟩, ⟨zR BK531.out⟩, ⟨by repeat (first | (with_reducible first | exact HB.out | apply zB | apply zC | apply zD | refine zE ?_ GE511.out | refine zE ?_ GE512.out | refine zE ?_ GE518.out | refine zE ?_ GE524.out | refine zE ?_ GE531.out) | exact HB.out)⟩⟩
                      rw [if_neg c127] at H
                      exact absurd H (by simp)
                     rw [if_neg c126] at H
                     have c126b0 : decide (0 < x22_5) = false := decide_eq_false c126
                     clear c126
                     have H' := zA H
                     clear H
                     obtain ⟨Ao129, co129, eo129⟩ := kM HO_13.out
                     subst eo129
                     have p555 : 0 ≤ (x22_5 : Int) := zd
                     have q555 : x22_5 < (t536.length : Int) := zd
                     obtain ⟨ad555, e555, hx555_0⟩ := Kd.at_int (kB HO_13.out).2.2 x22_5 p555 q555
                     cases e555
                     replace p555 := eq_true p555
                     replace q555 := eq_true q555
                     go_wp2
                     go_roundg kj114
                     case measure => have := HJ6.out; have := HJ47.out; have := HK3.out; have := HK4.out; have := HK5.out; have := HJ102.out; have := HJ110.out; have := HJ114.out; omega
                     case rel => exact ⟨(wrap64 (x22_5 + 1)), zs, H', ⟨by have := HJ6.out; have := HJ47.out; have := HK3.out; have := HK4.out; have := HK5.out; have := HJ102.out; have := HJ110.out; have := HJ114.out; omega⟩, ⟨zP HO_11.out⟩, ⟨zP HO_13.out⟩, ⟨zP HO_17.out⟩, ⟨zP HO_512001.out⟩, ⟨zP HO_513001.out⟩, ⟨zP HO_519001.out⟩, ⟨zP HO_525001.out⟩, ⟨zP HO_532001.out⟩, ⟨zR BK511.out⟩, ⟨zR BK512.out⟩, ⟨zR BK518.out⟩, ⟨zR BK524.out⟩, ⟨zR BK531.out⟩, ⟨by repeat (first | (with_reducible first | exact HB.out | apply zB | apply zC | apply zD | refine zE ?_ GE511.out | refine zE ?_ GE512.out | refine zE ?_ GE518.out | refine zE ?_ GE524.out | refine zE ?_ GE531.out) | exact HB.out)⟩⟩
                    rw [if_neg c119] at H
                    exact absurd H (by simp)
                   rw [if_neg c118] at H
                   have c118b0 : decide (x22_5 < (t536.length : Int)) = false := decide_eq_false c118
                   clear c118
                   by_cases c130 : x22_5 = 0
                   ·rw [if_pos c130] at H
                    obtain ⟨c130b0, c130b1⟩ := zT1 c130
                    clear c130
                    by_cases c131 : x23_114 = (-1)
                    ·rw [if_pos c131] at H
                     obtain ⟨c131b0, c131b1⟩ := zT1 c131
                     clear c131
                     by_cases c132 : x22_5 > 0
                     ·rw [if_pos c132] at H
                      have c132b0 : decide (0 < x22_5) = true := decide_eq_true c132
                      clear c132
                      by_cases c133 : x23_114 = 0
                      ·rw [if_pos c133] at H
                       obtain ⟨c133b0, c133b1⟩ := zT1 c133
                       clear c133
                       have H' := zA H
                       clear H
                       obtain ⟨Ao134, co134, eo134⟩ := kM HO_13.out
                       subst eo134
                       go_wp2
                       go_roundg kj114
                       case measure => have := HJ6.out; have := HJ47.out; have := HK3.out; have := HK4.out; have := HK5.out; have := HJ102.out; have := HJ110.out; have := HJ114.out; omega
                       case rel => exact ⟨(wrap64 (x22_5 + 1)), zs, H', ⟨by have := HJ6.out; have := HJ47.out; have := HK3.out; have := HK4.out; have := HK5.out; have := HJ102.out; have := HJ110.out; have := HJ114.out; omega⟩, ⟨zP HO_11.out⟩, ⟨zP HO_13.out⟩, ⟨zP HO_17.out⟩, ⟨zP HO_512001.out⟩, ⟨zP HO_513001.out⟩, ⟨zP HO_519001.out⟩, ⟨zP HO_525001.out⟩, ⟨zP HO_532001.out⟩, ⟨zR BK511.out⟩, ⟨zR BK512.out⟩, ⟨zR BK518.out⟩, ⟨zR BK524.out⟩, ⟨zR BK531.out⟩, ⟨by repeat (first | (with_reducible first | exact HB.out | apply zB | apply zC | apply zD | refine zE ?_ GE511.out | refine zE ?_ GE512.out | refine zE ?_ GE518.out | refine zE ?_ GE524.out | refine zE ?_ GE531.out) | exact HB.out)⟩⟩
                      rw [if_neg c133] at H
                      exact absurd H (by simp)
                     rw [if_neg c132] at H
                     have c132b0 : decide (0 < x22_5) = false := decide_eq_false c132
                     clear c132
                     have H' := zA H
                     clear H
                     obtain ⟨Ao135, co135, eo135⟩ := kM HO_13.out
                     subst eo135
                     go_wp2
                     go_roundg kj114
                     case measure => have := HJ6.out; have := HJ47.out; have := HK3.out; have := HK4.out; have := HK5.out; have := HJ102.out; have := HJ110.out; have := HJ114.out; omega
                     case rel => exact ⟨(wrap64 (x22_5 + 1)), zs, H', ⟨by have := HJ6.out; have := HJ47.out; have := HK3.out; have := HK4.out; have := HK5.out; have := HJ102.out; have := HJ110.out; have := HJ114.out; omega⟩, ⟨zP HO_11.out⟩, ⟨zP HO_13.out⟩, ⟨zP HO_17.out⟩, ⟨zP HO_512001.out⟩, ⟨zP HO_513001.out⟩, ⟨zP HO_519001.out⟩, ⟨zP HO_525001.out⟩, ⟨zP HO_532001.out⟩, ⟨zR BK511.out⟩, ⟨zR BK512.out⟩, ⟨zR BK518.out⟩, ⟨zR BK524.out⟩, ⟨zR BK531.out⟩, ⟨by repeat (first | (with_reducible first | exact HB.out | apply zB | apply zC | apply zD | refine zE ?_ GE511.out | refine zE ?_ GE512.out | refine zE ?_ GE518.out | refine zE ?_ GE524.out | refine zE ?_ GE531.out) | exact HB.out)⟩⟩
                    rw [if_neg c131] at H
                    exact absurd H (by simp)
                   rw [if_neg c130] at H
                   obtain ⟨c130b0, c130b1⟩ := zT2 c130
                   by_cases c136 : x22_5 > 0
                   ·rw [if_pos c136] at H
                    have c136b0 : decide (0 < x22_5) = true := decide_eq_true c136
                    clear c136
                    by_cases c137 : x23_114 = 0
                    ·rw [if_pos c137] at H
                     obtain ⟨c137b0, c137b1⟩ := zT1 c137
                     clear c137
                     have H' := zA H
                     clear H
                     obtain ⟨Ao138, co138, eo138⟩ := kM HO_13.out
                     subst eo138
                     go_wp2
                     go_roundg kj114
                     case measure => have := HJ6.out; have := HJ47.out; have := HK3.out; have := HK4.out; have := HK5.out; have := HJ102.out; have := HJ110.out; have := HJ114.out; omega
                     case rel => exact ⟨(wrap64 (x22_5 + 1)), zs, H', ⟨by have := HJ6.out; have := HJ47.out; have := HK3.out; have := HK4.out; have := HK5.out; have := HJ102.out; have := HJ110.out; have := HJ114.out; omega⟩, ⟨zP HO_11.out⟩, ⟨zP HO_13.out⟩, ⟨zP HO_17.out⟩, ⟨zP HO_512001.out⟩, ⟨zP HO_513001.out⟩, ⟨zP HO_519001.out⟩, ⟨zP HO_525001.out⟩, ⟨zP HO_532001.out⟩, ⟨zR BK511.out⟩, ⟨zR BK512.out⟩, ⟨zR BK518.out⟩, ⟨zR BK524.out⟩, ⟨zR BK531.out⟩, ⟨by repeat (first | (with_reducible first | exact HB.out | apply zB | apply zC | apply zD | refine zE ?_ GE511.out | refine zE ?_ GE512.out | refine zE ?_ GE518.out | refine zE ?_ GE524.out | refine zE ?_ GE531.out) | exact HB.out)⟩⟩
                    rw [if_neg c137] at H
                    exact absurd H (by simp)
                   rw [if_neg c136] at H
                   have c136b0 : decide (0 < x22_5) = false := decide_eq_false c136
                   clear c136
                   have H' := zA H
                   clear H
                   obtain ⟨Ao139, co139, eo139⟩ := kM HO_13.out
                   subst eo139
                   go_wp2
                   go_roundg kj114
                   case measure => have := HJ6.out; have := HJ47.out; have := HK3.out; have := HK4.out; have := HK5.out; have := HJ102.out; have := HJ110.out; have := HJ114.out; omega
                   case rel => exact ⟨(wrap64 (x22_5 + 1)), zs, H', ⟨by have := HJ6.out; have := HJ47.out; have := HK3.out; have := HK4.out; have := HK5.out; have := HJ102.out; have := HJ110.out; have := HJ114.out; omega⟩, ⟨zP HO_11.out⟩, ⟨zP HO_13.out⟩, ⟨zP HO_17.out⟩, ⟨zP HO_512001.out⟩, ⟨zP HO_513001.out⟩, ⟨zP HO_519001.out⟩, ⟨zP HO_525001.out⟩, ⟨zP HO_532001.out⟩, ⟨zR BK511.out⟩, ⟨zR BK512.out⟩, ⟨zR BK518.out⟩, ⟨zR BK524.out⟩, ⟨zR BK531.out⟩, ⟨by repeat (first | (with_reducible first | exact HB.out | apply zB | apply zC | apply zD | refine zE ?_ GE511.out | refine zE ?_ GE512.out | refine zE ?_ GE518.out | refine zE ?_ GE524.out | refine zE ?_ GE531.out) | exact HB.out)⟩⟩
              replace c110 := Bool.eq_false_iff.mpr c110
              subst c110
              rw [if_neg (show ¬ (false = true) by decide)] at H
              obtain rfl := Option.some.inj H
              go_wp2
              go_ret
              exact ⟨zr, by repeat (first | (with_reducible first | exact HB.out | apply zB | apply zC | apply zD | refine zE ?_ GE511.out | refine zE ?_ GE512.out | refine zE ?_ GE518.out | refine zE ?_ GE524.out | refine zE ?_ GE531.out) | exact HB.out)⟩
   rw [if_neg c42] at H
   obtain ⟨c42b0, c42b1⟩ := zT2 c42
   obtain rfl := Option.some.inj H
   go_wp2
   go_ret
   exact ⟨zr, by repeat (first | (with_reducible first | exact HB.out | apply zB | apply zC | apply zD | refine zE ?_ GE511.out | refine zE ?_ GE512.out | refine zE ?_ GE518.out | refine zE ?_ GE524.out) | exact HB.out)⟩


end Go.Proofs.YtjdekliancabgaaDoor.PAll
