-- Printed by a program of the session (wip/tools/pgen.py) out of the translation. Not trusted: Lean checks it.
import Derived.Test.YtkiacoilecdepaaDoorPAllx0
import Derived.Test.YtkiacoilecdepaaDoorPAllx1
import Derived.Test.YtkiacoilecdepaaDoorPAllx4
import Derived.Test.YtkiacoilecdepaaDoorPAllx6
import Derived.Test.YtkiacoilecdepaaDoorPAllx12
import Derived.Test.YtkiacoilecdepaaDoorPAllx16
import Derived.Test.YtkiacoilecdepaaDoorPAllx17
import Derived.Test.YtkiacoilecdepaaDoorPAllx18
import Derived.Test.YtkiacoilecdepaaDoorPAllx21
namespace Go.Proofs.YtkiacoilecdepaaDoor.PAll
open Go.RowKit Go.Proofs.YtkiacoilecdepaaDoor.T Go.Proofs.YtkiacoilecdepaaDoorW.PrintWords Go.Proofs.YtkiacoilecdepaaDoorW.PrintLast Go.Proofs.YtkiacoilecdepaaDoorW.PrintMore
attribute [local go_sem] max2_int min2_int max_two min_two max_three min_three max_four min_four   -- for this text's walks alone
set_option linter.unusedVariables false
set_option linter.unusedSimpArgs false

/-! ### spec_DrawResidualAfter: function 37 -/
def spec_DrawResidualAfter.f (k : Nat) (l0 : List Int) : Option (Int × List Int × List Int × List Int) := (spec_l05Friends.f k l0).bind fun bt1391 => (some (bt1391.1, bt1391.2.1, bt1391.2.2.1, bt1391.2.2.2))

set_option maxHeartbeats 8000000 in
set_option maxRecDepth 100000 in
theorem spec_DrawResidualAfter.calls (k : Nat) (A0 : Option Addr) (c0 : Nat) (l0 : List Int) (r1 : Int) (r2 : List Int) (r3 : List Int) (r4 : List Int) (w : World) (hr0 : Kd.C (Kd.int .u8) w A0 l0.length l0) (hc0 : l0.length ≤ c0) (h : spec_DrawResidualAfter.f k l0 = some (r1, r2, r3, r4)) :
  Calls Tryd.prog 37 #[.slice A0 l0.length c0] w fun e w' => ∃ v1_ v2_ v3_ : Value, e = .returned (.tuple #[.agg #[.int .i64 r1, v1_], v2_, v3_]) ∧ Kd.R (Kd.int .i64) 2 w' w.heap.size (fun k_ => some k_ ≠ (v2_ : Value).ownBlock ∧ some k_ ≠ (v3_ : Value).ownBlock) v1_ r2 ∧ Kd.R (Kd.int .i64) 2 w' w.heap.size (fun k_ => some k_ ≠ (v1_ : Value).ownBlock ∧ some k_ ≠ (v3_ : Value).ownBlock) v2_ r3 ∧ Kd.R (Kd.int .i64) 2 w' w.heap.size (fun k_ => some k_ ≠ (v1_ : Value).ownBlock ∧ some k_ ≠ (v2_ : Value).ownBlock) v3_ r4 ∧ Below w.heap.size w w' := by
 have hu26 := Tryd.underlying26
 have HR0 := zA hr0
 have HC0 := zA hc0
 clear hr0 hc0
 have HB := zA (kW w.heap.size w)
 have H := h
 unfold spec_DrawResidualAfter.f at H
 clear h
 obtain ⟨⟨t1391, t1392, t1395, t1398⟩, A2, H⟩ := zb H
 try dsimp only at H
 simp only [Option.some.injEq, Prod.mk.injEq] at H
 obtain ⟨rfl, rfl, rfl, rfl⟩ := H
 go_enter Tryd.func37, Tryd.ntmps37
 go_wp2_with (first | (refine zBE 2 #[.int .i64 0, .slice none 0 0] 26 ?_; intro gb1390 hg w3 hbox hb; have BK1390 := zA (hbox); have GW1390 := zA (zBH hg HB.out); have GE1390 := zA (zBH hg HB.out); replace HB := zA (kQ (zQ HB.out) hb); clear hb hbox hg) | (refine zO (some 10) Tryd.func91 #[.slice A0 l0.length c0] ?_; (with_reducible refine (spec_l05Friends.calls k _ _ l0 t1391 t1392 t1395 t1398 _ ?side1 ?side2 A2.out).mono ?_); (case side1 => exact zS (kO HR0.out HB.out)); (case side2 => exact HC0.out); rintro e w4 ⟨v1393, v1396, v1399, rfl, ho0, ho1, ho2, hb⟩; refine ⟨_, rfl, ?_⟩; have HO1394 := zA (kI ho0 (kP (zT HB.out GE1390.out))); have HO1397 := zA (kI ho1 (kP (zT HB.out GE1390.out))); have HO1400 := zA (kI ho2 (kP (zT HB.out GE1390.out))); replace BK1390 := zA (zB1 BK1390.out hb); replace HB := zA (kQ (zT HB.out GE1390.out) hb); (try clear hb); (try clear ho0); (try clear ho1); (try clear ho2)) | (refine zBE 5 #[.int .i64 0, .slice none 0 0] 26 ?_; intro gb1401 hg w5 hbox hb; replace HO1394 := zA (kL (zP HO1394.out) hb); replace HO1397 := zA (kL (zP HO1397.out) hb); replace HO1400 := zA (kL (zP HO1400.out) hb); have BK1401 := zA (hbox); have GW1401 := zA (zB6 hg (kP (zT HB.out GE1390.out)) : w.heap.size ≤ gb1401); have GE1401 := zA (zB6 hg (kP (zT HB.out GE1390.out)) : w.heap.size ≤ gb1401); replace HB := zA (kQ (zT HB.out GE1390.out) hb); have NB1390_1401 := zA (zB4 hg BK1390.out : gb1390 ≠ gb1401); have NB1401_1390 := zA (zB5 hg BK1390.out : gb1401 ≠ gb1390); replace BK1390 := zA (zB1 BK1390.out hb); clear hb hbox hg; have hnb6 := NB1401_1390.out; have hnc6 := NB1390_1401.out; obtain ⟨hcz7_0, hcz7_1, hfz7_0, hfz7_1⟩ := zB3 BK1401.out; obtain ⟨Ao8, co8, eo8⟩ := kM HO1394.out; subst eo8; obtain ⟨hcz9_0, hcz9_1, hfz9_0, hfz9_1⟩ := zB3 BK1390.out))
 refine bodyPost_ret (results_ctt rfl _ _ gb1390 26 #[.int .i64 t1391, .slice Ao8 t1392.length co8] (0, 0) _ rfl (by (with_reducible repeat (first | refine zJ ?_ _ | refine zK ?_ | refine zI ?_ _)); refine blk_put (cs := #[.int .i64 t1391, .slice none 0 0]) ?_ 1 _ rfl; (with_reducible repeat (first | refine zJ ?_ _ | refine zK ?_ | refine zI ?_ _)); refine blk_put (cs := #[.int .i64 0, .slice none 0 0]) ?_ 0 _ rfl; (with_reducible repeat (first | refine zJ ?_ _ | refine zK ?_ | refine zI ?_ _)); refine blk_far ?_ NB1390_1401.out _; (with_reducible repeat (first | refine zJ ?_ _ | refine zK ?_ | refine zI ?_ _)); refine blk_far ?_ NB1390_1401.out _; (with_reducible repeat (first | refine zJ ?_ _ | refine zK ?_ | refine zI ?_ _)); exact BK1390.out) Tryd.underlying26 rfl (by kernel_rfl)) rfl ?_
 exact ⟨_, _, _, zr, by (with_reducible repeat (first | apply zF | apply zG | apply zH)); exact kA (kY (p := ⟨gb1390, 1, none⟩) (kY (p := ⟨gb1390, 0, none⟩) (kY (p := ⟨gb1401, 1, none⟩) (kY (p := ⟨gb1401, 0, none⟩) (kD (kD HO1394.out BK1401.out (by decide)) BK1390.out (by decide)) (fun _ hk => hk.1.2) (.int .i64 t1391)) (fun _ hk => hk.1.2) (.slice Ao8 t1392.length co8)) (fun _ hk => hk.2) (.int .i64 t1391)) (fun _ hk => hk.2) (.slice Ao8 t1392.length co8)) (fun _ hk => ⟨hk.1.1.1, hk.1.1.2⟩), by (with_reducible repeat (first | apply zF | apply zG | apply zH)); exact kA (kY (p := ⟨gb1390, 1, none⟩) (kY (p := ⟨gb1390, 0, none⟩) (kY (p := ⟨gb1401, 1, none⟩) (kY (p := ⟨gb1401, 0, none⟩) (kD (kD HO1397.out BK1401.out (by decide)) BK1390.out (by decide)) (fun _ hk => hk.1.2) (.int .i64 t1391)) (fun _ hk => hk.1.2) (.slice Ao8 t1392.length co8)) (fun _ hk => hk.2) (.int .i64 t1391)) (fun _ hk => hk.2) (.slice Ao8 t1392.length co8)) (fun _ hk => ⟨hk.1.1.1, hk.1.1.2⟩), by (with_reducible repeat (first | apply zF | apply zG | apply zH)); exact kA (kY (p := ⟨gb1390, 1, none⟩) (kY (p := ⟨gb1390, 0, none⟩) (kY (p := ⟨gb1401, 1, none⟩) (kY (p := ⟨gb1401, 0, none⟩) (kD (kD HO1400.out BK1401.out (by decide)) BK1390.out (by decide)) (fun _ hk => hk.1.2) (.int .i64 t1391)) (fun _ hk => hk.1.2) (.slice Ao8 t1392.length co8)) (fun _ hk => hk.2) (.int .i64 t1391)) (fun _ hk => hk.2) (.slice Ao8 t1392.length co8)) (fun _ hk => ⟨hk.1.1.1, hk.1.1.2⟩), zV HB.out GE1390.out GE1401.out⟩

/-! ### impl_ResidualAfter: function 38 -/
def impl_ResidualAfter.f (k : Nat) (a0_0 : Int) (l0_1 : List Int) (l1 : List Int) (l2 : List Int) : Option (List Int × Int) := (impl_checkJoin.f k a0_0 l0_1 l1 l2).bind fun bt1442 => (if bt1442.2 = 0 then ((impl_Alphabet_ties.f a0_0 l0_1).bind fun t1446 => ((impl_ties_normal.f k t1446 bt1442.1).bind fun t1449 => (some (t1449, 0)))) else (some (([] : List Int), bt1442.2)))

set_option maxHeartbeats 8000000 in
set_option maxRecDepth 100000 in
theorem impl_ResidualAfter.calls (k : Nat) (a0_0 : Int) (A0_1 : Option Addr) (c0_1 : Nat) (l0_1 : List Int) (A1 : Option Addr) (c1 : Nat) (l1 : List Int) (A2 : Option Addr) (c2 : Nat) (l2 : List Int) (r1 : List Int) (r2 : Int) (w : World) (hr0_1 : Kd.C (Kd.int .i64) w A0_1 l0_1.length l0_1) (hc0_1 : l0_1.length ≤ c0_1) (hr1 : Kd.C (Kd.int .i64) w A1 l1.length l1) (hc1 : l1.length ≤ c1) (hr2 : Kd.C (Kd.int .i64) w A2 l2.length l2) (hc2 : l2.length ≤ c2) (hT : TabW w) (h : impl_ResidualAfter.f k a0_0 l0_1 l1 l2 = some (r1, r2)) :
  Calls Tryd.prog 38 #[.agg #[.int .i64 a0_0, .slice A0_1 l0_1.length c0_1], .slice A1 l1.length c1, .slice A2 l2.length c2] w fun e w' => ∃ v0_ : Value, e = .returned (.tuple #[v0_, .int .i64 r2]) ∧ Kd.R (Kd.int .i64) 2 w' w.heap.size (fun _ => True) v0_ r1 ∧ Below w.heap.size w w' := by
 have hu26 := Tryd.underlying26
 have HT := zA hT
 clear hT
 have HR0_1 := zA hr0_1
 have HC0_1 := zA hc0_1
 clear hr0_1 hc0_1
 have HR1 := zA hr1
 have HC1 := zA hc1
 clear hr1 hc1
 have HR2 := zA hr2
 have HC2 := zA hc2
 clear hr2 hc2
 have HB := zA (kW w.heap.size w)
 have H := h
 unfold impl_ResidualAfter.f at H
 clear h
 obtain ⟨⟨t1442, t1445⟩, A4, H⟩ := zb H
 try dsimp only at H
 by_cases c5 : t1445 = 0
 ·rw [if_pos c5] at H
  obtain ⟨c5b0, c5b1⟩ := zT1 c5
  clear c5
  obtain ⟨t1446, A6, H⟩ := zb H
  try dsimp only at H
  obtain ⟨t1449, A7, H⟩ := zb H
  try dsimp only at H
  simp only [Option.some.injEq, Prod.mk.injEq] at H
  obtain ⟨rfl, rfl⟩ := H
  go_enter Tryd.func38, Tryd.ntmps38
  go_wp2_with (first | (refine zBE 3 #[.int .i64 a0_0, .slice A0_1 l0_1.length c0_1] 26 ?_; intro gb1441 hg w8 hbox hb; have BK1441 := zA (hbox); have GW1441 := zA (zBH hg HB.out); have GE1441 := zA (zBH hg HB.out); replace HB := zA (kQ (zQ HB.out) hb); clear hb hbox hg; obtain ⟨hcz9_0, hcz9_1, hfz9_0, hfz9_1⟩ := zB3 BK1441.out) | (refine zO (some 14) Tryd.func92 #[.agg #[.int .i64 a0_0, .slice A0_1 l0_1.length c0_1], .slice A1 l1.length c1, .slice A2 l2.length c2] ?_; (with_reducible refine (impl_checkJoin.calls k a0_0 (fun k_ => k_ < w.heap.size) _ _ l0_1 (fun k_ => k_ < w.heap.size) _ _ l1 (fun k_ => k_ < w.heap.size) _ _ l2 t1442 t1445 _ ?side1 ?side2 ?side3 ?side4 A4.out).mono ?_); (case side1 => exact Kd.V_mk HC0_1.out (Kd.F_below (Kd.C_F (Kd.heap_int .i64) HR0_1.out) (zT HB.out GE1441.out))); (case side2 => exact Kd.V_mk HC1.out (Kd.F_below (Kd.C_F (Kd.heap_int .i64) HR1.out) (zT HB.out GE1441.out))); (case side3 => exact Kd.V_mk HC2.out (Kd.F_below (Kd.C_F (Kd.heap_int .i64) HR2.out) (zT HB.out GE1441.out))); (case side4 => exact TabW.below HT.out (zT HB.out GE1441.out)); rintro e w10 ⟨v1443, rfl, ho0, hb⟩; refine ⟨_, rfl, ?_⟩; have HO1444 := zA (jM (kN (ok' := fun k_ => k_ ≠ gb1441) ho0 (fun k_ hk_ => Or.elim hk_ (fun hs_ => Or.elim hs_ (fun hs_ => fun e_ => Nat.not_le.2 hs_ (by rw [e_]; exact GW1441.out)) (fun hs_ => Or.elim hs_ (fun hs_ => fun e_ => Nat.not_le.2 hs_ (by rw [e_]; exact GW1441.out)) (fun hs_ => fun e_ => Nat.not_le.2 hs_ (by rw [e_]; exact GW1441.out)))) (fun hn_ => (jE (g := gb1441) (o := .cells #[.int .i64 a0_0, .slice A0_1 l0_1.length c0_1] 26 (0, 0)) (zR BK1441.out) k_ hn_)))) (kP (zT HB.out GE1441.out))); replace BK1441 := zA (zB1 BK1441.out hb); replace HB := zA (kQ (zT HB.out GE1441.out) hb); (try clear hb); (try clear ho0); obtain ⟨hcz11_0, hcz11_1, hfz11_0, hfz11_1⟩ := zB3 BK1441.out) | (refine zO (some 21) Tryd.func50 #[.agg #[.int .i64 a0_0, .slice A0_1 l0_1.length c0_1]] ?_; (with_reducible refine (impl_Alphabet_ties.calls a0_0 (fun k_ => k_ < w.heap.size) _ _ l0_1 t1446 _ ?side1 A6.out).mono ?_); (case side1 => exact Kd.V_mk HC0_1.out (Kd.F_below (Kd.C_F (Kd.heap_int .i64) HR0_1.out) (zT HB.out GE1441.out))); rintro e w12 ⟨v1447, rfl, ho0, hb⟩; refine ⟨_, rfl, ?_⟩; replace HO1444 := zA (kG (zPV HO1444.out) hb); have HO1448 := zA (jM (kN (ok' := fun k_ => k_ ≠ gb1441) ho0 (fun k_ hk_ => Or.elim hk_ (fun hs_ => fun e_ => Nat.not_le.2 hs_ (by rw [e_]; exact GW1441.out)) (fun hn_ => (jE (g := gb1441) (o := .cells #[.int .i64 a0_0, .slice A0_1 l0_1.length c0_1] 26 (0, 0)) (zR BK1441.out) k_ hn_)))) (kP (zT HB.out GE1441.out))); replace BK1441 := zA (zB1 BK1441.out hb); replace HB := zA (kQ (zT HB.out GE1441.out) hb); (try clear hb); (try clear ho0); obtain ⟨Ao13, co13, eo13⟩ := Kd.V_slice HO1448.out; subst eo13; obtain ⟨Ao14, co14, eo14⟩ := Kd.V_slice HO1444.out; subst eo14) | (refine zO (some 23) Tryd.func56 #[.slice Ao13 t1446.length co13, .slice Ao14 t1442.length co14] ?_; (with_reducible refine (impl_ties_normal.calls k _ _ t1446 (fun k_ => k_ ≠ gb1441) _ _ t1442 t1449 _ ?side1 ?side2 ?side3 ?side4 A7.out).mono ?_); (case side1 => exact zS (kJ HO1448.out).2.2); (case side2 => exact (kJ HO1448.out).2.1); (case side3 => exact HO1444.out); (case side4 => exact TabW.below HT.out (zT HB.out GE1441.out)); rintro e w15 ⟨v1450, rfl, ho0, hb⟩; refine ⟨_, rfl, ?_⟩; replace HO1444 := zA (kK (zPV HO1444.out) (kC ho0) hb); replace HO1448 := zA (kK (zPV HO1448.out) (kC ho0) hb); have HO1451 := zA (kI (kA (ok' := fun k_ => True) ho0 (fun _ hk_ => trivial)) (kP (zT HB.out GE1441.out))); replace BK1441 := zA (zB1 BK1441.out hb); replace HB := zA (kQ (zT HB.out GE1441.out) hb); (try clear hb); (try clear ho0)))
  go_ret2
  exact ⟨_, zr, zP HO1451.out, zT HB.out GE1441.out⟩
 rw [if_neg c5] at H
 obtain ⟨c5b0, c5b1⟩ := zT2 c5
 simp only [Option.some.injEq, Prod.mk.injEq] at H
 obtain ⟨rfl, rfl⟩ := H
 go_enter Tryd.func38, Tryd.ntmps38
 go_wp2_with (first | (refine zBE 3 #[.int .i64 a0_0, .slice A0_1 l0_1.length c0_1] 26 ?_; intro gb1441 hg w16 hbox hb; have BK1441 := zA (hbox); have GW1441 := zA (zBH hg HB.out); have GE1441 := zA (zBH hg HB.out); replace HB := zA (kQ (zQ HB.out) hb); clear hb hbox hg; obtain ⟨hcz17_0, hcz17_1, hfz17_0, hfz17_1⟩ := zB3 BK1441.out) | (refine zO (some 14) Tryd.func92 #[.agg #[.int .i64 a0_0, .slice A0_1 l0_1.length c0_1], .slice A1 l1.length c1, .slice A2 l2.length c2] ?_; (with_reducible refine (impl_checkJoin.calls k a0_0 (fun k_ => k_ < w.heap.size) _ _ l0_1 (fun k_ => k_ < w.heap.size) _ _ l1 (fun k_ => k_ < w.heap.size) _ _ l2 t1442 t1445 _ ?side1 ?side2 ?side3 ?side4 A4.out).mono ?_); (case side1 => exact Kd.V_mk HC0_1.out (Kd.F_below (Kd.C_F (Kd.heap_int .i64) HR0_1.out) (zT HB.out GE1441.out))); (case side2 => exact Kd.V_mk HC1.out (Kd.F_below (Kd.C_F (Kd.heap_int .i64) HR1.out) (zT HB.out GE1441.out))); (case side3 => exact Kd.V_mk HC2.out (Kd.F_below (Kd.C_F (Kd.heap_int .i64) HR2.out) (zT HB.out GE1441.out))); (case side4 => exact TabW.below HT.out (zT HB.out GE1441.out)); rintro e w18 ⟨v1443, rfl, ho0, hb⟩; refine ⟨_, rfl, ?_⟩; have HO1444 := zA (jM (kN (ok' := fun k_ => k_ ≠ gb1441) ho0 (fun k_ hk_ => Or.elim hk_ (fun hs_ => Or.elim hs_ (fun hs_ => fun e_ => Nat.not_le.2 hs_ (by rw [e_]; exact GW1441.out)) (fun hs_ => Or.elim hs_ (fun hs_ => fun e_ => Nat.not_le.2 hs_ (by rw [e_]; exact GW1441.out)) (fun hs_ => fun e_ => Nat.not_le.2 hs_ (by rw [e_]; exact GW1441.out)))) (fun hn_ => (jE (g := gb1441) (o := .cells #[.int .i64 a0_0, .slice A0_1 l0_1.length c0_1] 26 (0, 0)) (zR BK1441.out) k_ hn_)))) (kP (zT HB.out GE1441.out))); replace BK1441 := zA (zB1 BK1441.out hb); replace HB := zA (kQ (zT HB.out GE1441.out) hb); (try clear hb); (try clear ho0)))
 go_ret2
 exact ⟨_, zr, zn, zT HB.out GE1441.out⟩

/-! ### spec_ResidualAfter: function 39 -/
def spec_ResidualAfter.f (k : Nat) (a0_0 : Int) (l0_1 : List Int) (l1 : List Int) (l2 : List Int) : Option (List Int × Int) := (spec_JoinOf.f k a0_0 l0_1 l1 l2).bind fun bt1502 => (if bt1502.2 = 0 then ((spec_l05Cut.f k a0_0 l0_1 l1 bt1502.1).bind fun bt1506 => ((spec_l03Normal.f k a0_0 l0_1 bt1506.1).bind fun t1510 => (some (t1510, 0)))) else (some (([] : List Int), bt1502.2)))

set_option maxHeartbeats 8000000 in
set_option maxRecDepth 100000 in
theorem spec_ResidualAfter.calls (k : Nat) (a0_0 : Int) (A0_1 : Option Addr) (c0_1 : Nat) (l0_1 : List Int) (A1 : Option Addr) (c1 : Nat) (l1 : List Int) (A2 : Option Addr) (c2 : Nat) (l2 : List Int) (r1 : List Int) (r2 : Int) (w : World) (hr0_1 : Kd.C (Kd.int .i64) w A0_1 l0_1.length l0_1) (hc0_1 : l0_1.length ≤ c0_1) (hr1 : Kd.C (Kd.int .i64) w A1 l1.length l1) (hc1 : l1.length ≤ c1) (hr2 : Kd.C (Kd.int .i64) w A2 l2.length l2) (hc2 : l2.length ≤ c2) (h : spec_ResidualAfter.f k a0_0 l0_1 l1 l2 = some (r1, r2)) :
  Calls Tryd.prog 39 #[.agg #[.int .i64 a0_0, .slice A0_1 l0_1.length c0_1], .slice A1 l1.length c1, .slice A2 l2.length c2] w fun e w' => ∃ v0_ : Value, e = .returned (.tuple #[v0_, .int .i64 r2]) ∧ Kd.R (Kd.int .i64) 2 w' w.heap.size (fun _ => True) v0_ r1 ∧ Below w.heap.size w w' := by
 have hu26 := Tryd.underlying26
 have HR0_1 := zA hr0_1
 have HC0_1 := zA hc0_1
 clear hr0_1 hc0_1
 have HR1 := zA hr1
 have HC1 := zA hc1
 clear hr1 hc1
 have HR2 := zA hr2
 have HC2 := zA hc2
 clear hr2 hc2
 have HB := zA (kW w.heap.size w)
 have H := h
 unfold spec_ResidualAfter.f at H
 clear h
 obtain ⟨⟨t1502, t1505⟩, A4, H⟩ := zb H
 try dsimp only at H
 by_cases c5 : t1505 = 0
 ·rw [if_pos c5] at H
  obtain ⟨c5b0, c5b1⟩ := zT1 c5
  clear c5
  obtain ⟨⟨t1506, t1509⟩, A6, H⟩ := zb H
  try dsimp only at H
  obtain ⟨t1510, A7, H⟩ := zb H
  try dsimp only at H
  simp only [Option.some.injEq, Prod.mk.injEq] at H
  obtain ⟨rfl, rfl⟩ := H
  go_enter Tryd.func39, Tryd.ntmps39
  go_wp2_with (first | (refine zBE 3 #[.int .i64 a0_0, .slice A0_1 l0_1.length c0_1] 26 ?_; intro gb1501 hg w8 hbox hb; have BK1501 := zA (hbox); have GW1501 := zA (zBH hg HB.out); have GE1501 := zA (zBH hg HB.out); replace HB := zA (kQ (zQ HB.out) hb); clear hb hbox hg; obtain ⟨hcz9_0, hcz9_1, hfz9_0, hfz9_1⟩ := zB3 BK1501.out) | (refine zO (some 16) Tryd.func45 #[.agg #[.int .i64 a0_0, .slice A0_1 l0_1.length c0_1], .slice A1 l1.length c1, .slice A2 l2.length c2] ?_; (with_reducible refine (spec_JoinOf.calls k a0_0 _ _ l0_1 _ _ l1 _ _ l2 t1502 t1505 _ ?side1 ?side2 ?side3 ?side4 ?side5 ?side6 A4.out).mono ?_); (case side1 => exact zS (kO HR0_1.out HB.out)); (case side2 => exact HC0_1.out); (case side3 => exact zS (kO HR1.out HB.out)); (case side4 => exact HC1.out); (case side5 => exact zS (kO HR2.out HB.out)); (case side6 => exact HC2.out); rintro e w10 ⟨v1503, rfl, ho0, hb⟩; refine ⟨_, rfl, ?_⟩; have HO1504 := zA (kI ho0 (kP (zT HB.out GE1501.out))); replace BK1501 := zA (zB1 BK1501.out hb); replace HB := zA (kQ (zT HB.out GE1501.out) hb); (try clear hb); (try clear ho0); obtain ⟨hcz11_0, hcz11_1, hfz11_0, hfz11_1⟩ := zB3 BK1501.out; obtain ⟨Ao12, co12, eo12⟩ := kM HO1504.out; subst eo12) | (refine zO (some 26) Tryd.func71 #[.agg #[.int .i64 a0_0, .slice A0_1 l0_1.length c0_1], .slice A1 l1.length c1, .slice Ao12 t1502.length co12] ?_; (with_reducible refine (spec_l05Cut.calls k a0_0 _ _ l0_1 _ _ l1 _ _ t1502 t1506 t1509 _ ?side1 ?side2 ?side3 ?side4 ?side5 ?side6 A6.out).mono ?_); (case side1 => exact zS (kO HR0_1.out HB.out)); (case side2 => exact HC0_1.out); (case side3 => exact zS (kO HR1.out HB.out)); (case side4 => exact HC1.out); (case side5 => exact zS (kB HO1504.out).2.2); (case side6 => exact (kB HO1504.out).2.1); rintro e w13 ⟨v1507, rfl, ho0, hb⟩; refine ⟨_, rfl, ?_⟩; have HO1508 := zA (kI (kF ho0 (kH (zP HO1504.out))) (kP (zT HB.out GE1501.out))); replace HO1504 := zA (kE (zP HO1504.out) (kC ho0) hb); replace BK1501 := zA (zB1 BK1501.out hb); replace HB := zA (kQ (zT HB.out GE1501.out) hb); (try clear hb); (try clear ho0); obtain ⟨hcz14_0, hcz14_1, hfz14_0, hfz14_1⟩ := zB3 BK1501.out; obtain ⟨Ao15, co15, eo15⟩ := kM HO1508.out; subst eo15) | (refine zO (some 31) Tryd.func68 #[.agg #[.int .i64 a0_0, .slice A0_1 l0_1.length c0_1], .slice Ao15 t1506.length co15] ?_; (with_reducible refine (spec_l03Normal.calls k a0_0 _ _ l0_1 _ _ t1506 t1510 _ ?side1 ?side2 ?side3 ?side4 A7.out).mono ?_); (case side1 => exact zS (kO HR0_1.out HB.out)); (case side2 => exact HC0_1.out); (case side3 => exact zS (kB HO1508.out).2.2); (case side4 => exact (kB HO1508.out).2.1); rintro e w16 ⟨v1511, rfl, ho0, hb⟩; refine ⟨_, rfl, ?_⟩; have HO1512 := zA (kI (kF (kF ho0 (kH (zP HO1504.out))) (kH (zP HO1508.out))) (kP (zT HB.out GE1501.out))); replace HO1504 := zA (kE (zP HO1504.out) (kC ho0) hb); replace HO1508 := zA (kE (zP HO1508.out) (kC ho0) hb); replace BK1501 := zA (zB1 BK1501.out hb); replace HB := zA (kQ (zT HB.out GE1501.out) hb); (try clear hb); (try clear ho0)))
  go_ret2
  exact ⟨_, zr, by (with_reducible repeat (first | apply zF | apply zG | apply zH)); exact kA HO1512.out (fun _ hk => trivial), zT HB.out GE1501.out⟩
 rw [if_neg c5] at H
 obtain ⟨c5b0, c5b1⟩ := zT2 c5
 simp only [Option.some.injEq, Prod.mk.injEq] at H
 obtain ⟨rfl, rfl⟩ := H
 go_enter Tryd.func39, Tryd.ntmps39
 go_wp2_with (first | (refine zBE 3 #[.int .i64 a0_0, .slice A0_1 l0_1.length c0_1] 26 ?_; intro gb1501 hg w17 hbox hb; have BK1501 := zA (hbox); have GW1501 := zA (zBH hg HB.out); have GE1501 := zA (zBH hg HB.out); replace HB := zA (kQ (zQ HB.out) hb); clear hb hbox hg; obtain ⟨hcz18_0, hcz18_1, hfz18_0, hfz18_1⟩ := zB3 BK1501.out) | (refine zO (some 16) Tryd.func45 #[.agg #[.int .i64 a0_0, .slice A0_1 l0_1.length c0_1], .slice A1 l1.length c1, .slice A2 l2.length c2] ?_; (with_reducible refine (spec_JoinOf.calls k a0_0 _ _ l0_1 _ _ l1 _ _ l2 t1502 t1505 _ ?side1 ?side2 ?side3 ?side4 ?side5 ?side6 A4.out).mono ?_); (case side1 => exact zS (kO HR0_1.out HB.out)); (case side2 => exact HC0_1.out); (case side3 => exact zS (kO HR1.out HB.out)); (case side4 => exact HC1.out); (case side5 => exact zS (kO HR2.out HB.out)); (case side6 => exact HC2.out); rintro e w19 ⟨v1503, rfl, ho0, hb⟩; refine ⟨_, rfl, ?_⟩; have HO1504 := zA (kI ho0 (kP (zT HB.out GE1501.out))); replace BK1501 := zA (zB1 BK1501.out hb); replace HB := zA (kQ (zT HB.out GE1501.out) hb); (try clear hb); (try clear ho0)))
 go_ret2
 exact ⟨_, zr, zn, zT HB.out GE1501.out⟩

/-! ### laws_FnTraceResiduals: function 7 -/
mutual
def laws_FnTraceResiduals.j0 : Nat → List Int → List Int → List Int → List Int → Int → Bool → Int → List Int → Option (Bool)
 | 0, _, _, _, _, _, _, _, _ => none
 | k + 1, x0, x4, x5, x6, x7, x56, x1562000, x1562001 => if x56 = true then (none) else (if x7 = 0 then ((impl_ResidualAfter.f k x1562000 x1562001 x5 x4).bind fun bt1571 => ((impl_JoinOf.f k x1562000 x1562001 x4 x5).bind fun bt1575 => ((impl_Concatenate.f k x1562000 x1562001 x4 x6).bind fun bt1579 => ((impl_Concatenate.f k x1562000 x1562001 x5 bt1571.1).bind fun bt1583 => (if bt1571.2 = 0 then (if bt1575.2 = 0 then (if bt1579.2 = 0 then (if bt1583.2 = 0 then ((laws_likeInts.f k bt1579.1 bt1575.1).bind fun t1587 => (if t1587 = true then ((laws_likeInts.f k bt1583.1 bt1575.1).bind fun t1588 => (laws_FnTraceResiduals.j1 k x0 x4 x6 bt1575.1 (!t1588) x1562000 x1562001)) else (laws_FnTraceResiduals.j1 k x0 x4 x6 bt1575.1 true x1562000 x1562001))) else (laws_FnTraceResiduals.j1 k x0 x4 x6 bt1575.1 true x1562000 x1562001)) else (laws_FnTraceResiduals.j1 k x0 x4 x6 bt1575.1 true x1562000 x1562001)) else (laws_FnTraceResiduals.j1 k x0 x4 x6 bt1575.1 true x1562000 x1562001)) else (laws_FnTraceResiduals.j1 k x0 x4 x6 bt1575.1 true x1562000 x1562001)))))) else (some true))
def laws_FnTraceResiduals.j1 : Nat → List Int → List Int → List Int → List Int → Bool → Int → List Int → Option (Bool)
 | 0, _, _, _, _, _, _, _ => none
 | k + 1, x0, x4, x6, x12, x112, x1562000, x1562001 => if x112 = true then (none) else ((laws_roll.f k x0 510).bind fun bt1589 => ((laws_shuffle5.f k bt1589.1 bt1589.2.1 bt1589.2.2 x1562000 x1562001 x12).bind fun bt1593 => ((laws_dice_below.f bt1589.1 bt1593.2.1 bt1593.2.2 (wrap64 ((bt1593.1.length : Int) + 1))).bind fun bt1598 => (if 0 ≤ bt1598.1 then (if bt1598.1 ≤ (bt1593.1.length : Int) then ((some (bt1593.1.take (bt1598.1 : Int).toNat : List Int)).bind fun y1601 => (if x1562000 > 0 then ((laws_dice_below.f bt1589.1 bt1598.2.1 bt1598.2.2 3).bind fun bt1604 => (if bt1604.1 = 0 then (laws_FnTraceResiduals.j2 k x4 x6 x12 y1601 (decide ((y1601.length : Int) < 20)) x1562000 x1562001 bt1589.1 bt1604.2.1 bt1604.2.2) else (laws_FnTraceResiduals.j2 k x4 x6 x12 y1601 false x1562000 x1562001 bt1589.1 bt1604.2.1 bt1604.2.2))) else (laws_FnTraceResiduals.j2 k x4 x6 x12 y1601 false x1562000 x1562001 bt1589.1 bt1598.2.1 bt1598.2.2))) else (none)) else (none)))))
def laws_FnTraceResiduals.j2 : Nat → List Int → List Int → List Int → List Int → Bool → Int → List Int → List Int → Int → Int → Option (Bool)
 | 0, _, _, _, _, _, _, _, _, _, _ => none
 | k + 1, x4, x6, x12, x19, x138, x1562000, x1562001, x1593000, x1593001, x1593002 => if x138 = true then ((laws_dice_below.f x1593000 x1593001 x1593002 x1562000).bind fun bt1607 => (if x19.length < 17592186044416 then (laws_FnTraceResiduals.j3 k x4 x6 x12 (x19 ++ [bt1607.1]) x1562000 x1562001) else (none))) else (laws_FnTraceResiduals.j3 k x4 x6 x12 x19 x1562000 x1562001)
def laws_FnTraceResiduals.j3 : Nat → List Int → List Int → List Int → List Int → Int → List Int → Option (Bool)
 | 0, _, _, _, _, _, _ => none
 | k + 1, x4, x6, x12, x19, x1562000, x1562001 => (impl_ResidualAfter.f k x1562000 x1562001 x4 x19).bind fun bt1613 => ((impl_ResidualAfter.f k x1562000 x1562001 x12 x19).bind fun bt1617 => (if bt1613.2 = 0 then (laws_FnTraceResiduals.j4 k x6 bt1613.1 bt1613.2 bt1617.1 bt1617.2 (bt1617.2 != 0) x1562000 x1562001) else (laws_FnTraceResiduals.j4 k x6 bt1613.1 bt1613.2 bt1617.1 bt1617.2 true x1562000 x1562001)))
def laws_FnTraceResiduals.j4 : Nat → List Int → List Int → Int → List Int → Int → Bool → Int → List Int → Option (Bool)
 | 0, _, _, _, _, _, _, _, _ => none
 | k + 1, x6, x20, x21, x22, x23, x165, x1562000, x1562001 => if x165 = true then (if x21 = 0 then (if x23 = 4 then (some true) else (some (x23 == 3))) else (if x23 = 4 then (some true) else (some (x23 == 3)))) else ((impl_ResidualAfter.f k x1562000 x1562001 x6 x20).bind fun bt1621 => (if bt1621.2 = 0 then ((laws_likeInts.f k bt1621.1 x22).bind fun t1625 => (some t1625)) else (none)))
end
def laws_FnTraceResiduals.f (k : Nat) (l0 : List Int) : Option (Bool) := (laws_big.f l0).bind fun t1550 => (if t1550 = true then (some true) else ((spec_DrawResidualAfter.f k l0).bind fun bt1551 => ((impl_ResidualAfter.f k bt1551.1 bt1551.2.1 bt1551.2.2.1 bt1551.2.2.2).bind fun bt1562 => ((spec_ResidualAfter.f k bt1551.1 bt1551.2.1 bt1551.2.2.1 bt1551.2.2.2).bind fun bt1566 => (if bt1562.2 = bt1566.2 then ((laws_likeInts.f k bt1562.1 bt1566.1).bind fun t1570 => (laws_FnTraceResiduals.j0 k l0 bt1551.2.2.1 bt1551.2.2.2 bt1562.1 bt1562.2 (!t1570) bt1551.1 bt1551.2.1)) else (laws_FnTraceResiduals.j0 k l0 bt1551.2.2.1 bt1551.2.2.2 bt1562.1 bt1562.2 true bt1551.1 bt1551.2.1))))))

set_option maxHeartbeats 8000000 in
set_option maxRecDepth 100000 in
theorem laws_FnTraceResiduals.calls (k : Nat) (A0 : Option Addr) (c0 : Nat) (l0 : List Int) (r : Bool) (w : World) (hr0 : Kd.C (Kd.int .u8) w A0 l0.length l0) (hc0 : l0.length ≤ c0) (hT : TabW w) (h : laws_FnTraceResiduals.f k l0 = some r) :
  Calls Tryd.prog 7 #[.slice A0 l0.length c0] w fun e w' => e = .returned (.bool r) ∧ Below w.heap.size w w' := by
 have hu26 := Tryd.underlying26
 have HT := zA hT
 clear hT
 have HR0 := zA hr0
 have HC0 := zA hc0
 clear hr0 hc0
 have HB := zA (kW w.heap.size w)
 have H := h
 unfold laws_FnTraceResiduals.f at H
 clear h
 obtain ⟨t1550, A2, H⟩ := zb H
 try dsimp only at H
 by_cases c3 : t1550 = true
 ·subst c3
  rw [if_pos rfl] at H
  obtain rfl := Option.some.inj H
  go_enter Tryd.func7, Tryd.ntmps7
  go_wp2_with (first | (refine zO (some 27) Tryd.func9 #[.slice A0 l0.length c0] ?_; (with_reducible refine (laws_big.calls _ _ l0 true _ ?side1 ?side2 A2.out).mono ?_); (case side1 => exact zS HR0.out); (case side2 => exact HC0.out); rintro e w' ⟨rfl, ⟨nd, rfl⟩⟩; refine ⟨_, rfl, ?_⟩))
  go_ret
  exact ⟨zr, zQ HB.out⟩
 replace c3 := Bool.eq_false_iff.mpr c3
 subst c3
 rw [if_neg (show ¬ (false = true) by decide)] at H
 obtain ⟨⟨t1551, t1552, t1555, t1558⟩, A4, H⟩ := zb H
 try dsimp only at H
 obtain ⟨⟨t1562, t1565⟩, A5, H⟩ := zb H
 try dsimp only at H
 obtain ⟨⟨t1566, t1569⟩, A6, H⟩ := zb H
 try dsimp only at H
 have HC7 := zA H
 clear H
 go_enter Tryd.func7, Tryd.ntmps7
 go_upto_region 6 with (first | (refine zO (some 27) Tryd.func9 #[.slice A0 l0.length c0] ?_; (with_reducible refine (laws_big.calls _ _ l0 false _ ?side1 ?side2 A2.out).mono ?_); (case side1 => exact zS HR0.out); (case side2 => exact HC0.out); rintro e w' ⟨rfl, ⟨nd, rfl⟩⟩; refine ⟨_, rfl, ?_⟩) | (refine zO (some 30) Tryd.func37 #[.slice A0 l0.length c0] ?_; (with_reducible refine (spec_DrawResidualAfter.calls k _ _ l0 t1551 t1552 t1555 t1558 _ ?side1 ?side2 A4.out).mono ?_); (case side1 => exact zS HR0.out); (case side2 => exact HC0.out); rintro e w8 ⟨v1553, v1556, v1559, rfl, ho0, ho1, ho2, hb⟩; refine ⟨_, rfl, ?_⟩; have HO1554 := zA (kI ho0 (kP (zQ HB.out))); have HO1557 := zA (kI ho1 (kP (zQ HB.out))); have HO1560 := zA (kI ho2 (kP (zQ HB.out))); replace HB := zA (kQ (zQ HB.out) hb); (try clear hb); (try clear ho0); (try clear ho1); (try clear ho2)) | (refine zBE 3 #[.int .i64 0, .slice none 0 0] 26 ?_; intro gb1561 hg w9 hbox hb; replace HO1554 := zA (kL (zP HO1554.out) hb); replace HO1557 := zA (kL (zP HO1557.out) hb); replace HO1560 := zA (kL (zP HO1560.out) hb); have BK1561 := zA (hbox); have GW1561 := zA (zBH hg HB.out); have GE1561 := zA (zBH hg HB.out); replace HB := zA (kQ (zQ HB.out) hb); clear hb hbox hg; obtain ⟨hcz10_0, hcz10_1, hfz10_0, hfz10_1⟩ := zB3 BK1561.out; obtain ⟨Ao11, co11, eo11⟩ := kM HO1554.out; subst eo11; obtain ⟨Ao12, co12, eo12⟩ := kM HO1557.out; subst eo12; obtain ⟨Ao13, co13, eo13⟩ := kM HO1560.out; subst eo13) | (refine zO (some 38) Tryd.func38 #[.agg #[.int .i64 t1551, .slice Ao11 t1552.length co11], .slice Ao12 t1555.length co12, .slice Ao13 t1558.length co13] ?_; (with_reducible refine (impl_ResidualAfter.calls k t1551 _ _ t1552 _ _ t1555 _ _ t1558 t1562 t1565 _ ?side1 ?side2 ?side3 ?side4 ?side5 ?side6 ?side7 A5.out).mono ?_); (case side1 => refine (kB (e := 2) (base := w.heap.size) (ok := fun k_ => (some k_ ≠ (.slice Ao12 t1555.length co12 : Value).ownBlock ∧ some k_ ≠ (.slice Ao13 t1558.length co13 : Value).ownBlock)) (n := t1552.length) (c := co11) ?_).2.2; exact (zP (zFG HO1554.out BK1561.out (.int .i64 t1551) (.slice Ao11 t1552.length co11)))); (case side2 => exact (kB HO1554.out).2.1); (case side3 => refine (kB (e := 2) (base := w.heap.size) (ok := fun k_ => (some k_ ≠ (.slice Ao11 t1552.length co11 : Value).ownBlock ∧ some k_ ≠ (.slice Ao13 t1558.length co13 : Value).ownBlock)) (n := t1555.length) (c := co12) ?_).2.2; exact (zP (zFG HO1557.out BK1561.out (.int .i64 t1551) (.slice Ao11 t1552.length co11)))); (case side4 => exact (kB HO1557.out).2.1); (case side5 => refine (kB (e := 2) (base := w.heap.size) (ok := fun k_ => (some k_ ≠ (.slice Ao11 t1552.length co11 : Value).ownBlock ∧ some k_ ≠ (.slice Ao12 t1555.length co12 : Value).ownBlock)) (n := t1558.length) (c := co13) ?_).2.2; exact (zP (zFG HO1560.out BK1561.out (.int .i64 t1551) (.slice Ao11 t1552.length co11)))); (case side6 => exact (kB HO1560.out).2.1); (case side7 => exact TabW.below HT.out (zT HB.out GE1561.out)); rintro e w14 ⟨v1563, rfl, ho0, hb⟩; refine ⟨_, rfl, ?_⟩; have HO1564 := zA (kI (kF (kF (kF ho0 (kH (zP (zFG HO1554.out BK1561.out (.int .i64 t1551) (.slice Ao11 t1552.length co11))))) (kH (zP (zFG HO1557.out BK1561.out (.int .i64 t1551) (.slice Ao11 t1552.length co11))))) (kH (zP (zFG HO1560.out BK1561.out (.int .i64 t1551) (.slice Ao11 t1552.length co11))))) (kP (zT HB.out GE1561.out))); replace HO1554 := zA (kE (zP (zFG HO1554.out BK1561.out (.int .i64 t1551) (.slice Ao11 t1552.length co11))) (kC ho0) hb); replace HO1557 := zA (kE (zP (zFG HO1557.out BK1561.out (.int .i64 t1551) (.slice Ao11 t1552.length co11))) (kC ho0) hb); replace HO1560 := zA (kE (zP (zFG HO1560.out BK1561.out (.int .i64 t1551) (.slice Ao11 t1552.length co11))) (kC ho0) hb); replace BK1561 := zA (blk_below (g := gb1561) (o := .cells #[.int .i64 t1551, .slice Ao11 t1552.length co11] 26 (0, 0)) (zRP BK1561.out) hb); replace HB := zA (kQ (zT HB.out GE1561.out) hb); (try clear hb); (try clear ho0); obtain ⟨hcz15_0, hcz15_1, hfz15_0, hfz15_1⟩ := zB3 BK1561.out) | (refine zO (some 45) Tryd.func39 #[.agg #[.int .i64 t1551, .slice Ao11 t1552.length co11], .slice Ao12 t1555.length co12, .slice Ao13 t1558.length co13] ?_; (with_reducible refine (spec_ResidualAfter.calls k t1551 _ _ t1552 _ _ t1555 _ _ t1558 t1566 t1569 _ ?side1 ?side2 ?side3 ?side4 ?side5 ?side6 A6.out).mono ?_); (case side1 => exact zS (kB HO1554.out).2.2); (case side2 => exact (kB HO1554.out).2.1); (case side3 => exact zS (kB HO1557.out).2.2); (case side4 => exact (kB HO1557.out).2.1); (case side5 => exact zS (kB HO1560.out).2.2); (case side6 => exact (kB HO1560.out).2.1); rintro e w16 ⟨v1567, rfl, ho0, hb⟩; refine ⟨_, rfl, ?_⟩; have HO1568 := zA (kI (kF (kF (kF (kF ho0 (kH (zP HO1554.out))) (kH (zP HO1557.out))) (kH (zP HO1560.out))) (kH (zP HO1564.out))) (kP (zT HB.out GE1561.out))); replace HO1554 := zA (kE (zP HO1554.out) (kC ho0) hb); replace HO1557 := zA (kE (zP HO1557.out) (kC ho0) hb); replace HO1560 := zA (kE (zP HO1560.out) (kC ho0) hb); replace HO1564 := zA (kE (zP HO1564.out) (kC ho0) hb); replace BK1561 := zA (zB1 BK1561.out hb); replace HB := zA (kQ (zT HB.out GE1561.out) hb); (try clear hb); (try clear ho0)))
 (try simp only [Act.put, zL, zM, zN])
 go_cut [56] (fun v56 wc => ∃ (kq : Nat) (x56_6 : Bool), v56 = .bool x56_6 ∧ Aside0 (laws_FnTraceResiduals.j0 kq l0 t1555 t1558 t1562 t1565 x56_6 t1551 t1552 = some r) ∧ Aside0 (kq ≤ k) ∧ Aside0 (Kd.R (Kd.int .i64) 2 wc w.heap.size (fun k_ => some k_ ≠ ((.slice Ao13 t1558.length co13) : Value).ownBlock ∧ some k_ ≠ (v1563 : Value).ownBlock ∧ some k_ ≠ ((.slice Ao11 t1552.length co11) : Value).ownBlock) (.slice Ao12 t1555.length co12) t1555) ∧ Aside0 (Kd.R (Kd.int .i64) 2 wc w.heap.size (fun k_ => some k_ ≠ ((.slice Ao12 t1555.length co12) : Value).ownBlock ∧ some k_ ≠ (v1563 : Value).ownBlock ∧ some k_ ≠ ((.slice Ao11 t1552.length co11) : Value).ownBlock) (.slice Ao13 t1558.length co13) t1558) ∧ Aside0 (Kd.R (Kd.int .i64) 2 wc w.heap.size (fun k_ => some k_ ≠ ((.slice Ao12 t1555.length co12) : Value).ownBlock ∧ some k_ ≠ ((.slice Ao13 t1558.length co13) : Value).ownBlock ∧ some k_ ≠ ((.slice Ao11 t1552.length co11) : Value).ownBlock) v1563 t1562) ∧ Aside0 (Kd.R (Kd.int .i64) 2 wc w.heap.size (fun k_ => some k_ ≠ ((.slice Ao12 t1555.length co12) : Value).ownBlock ∧ some k_ ≠ ((.slice Ao13 t1558.length co13) : Value).ownBlock ∧ some k_ ≠ (v1563 : Value).ownBlock) (.slice Ao11 t1552.length co11) t1552) ∧ Aside0 (wc.heap[gb1561]? = some (.cells #[.int .i64 t1551, (.slice Ao11 t1552.length co11)] 26 (0, 0))) ∧ Aside0 (Below w.heap.size w wc))
 case first => as_aux_lemma =>
  have H := HC7.out
  clear HC7
  by_cases c17 : t1565 = t1569
  ·rw [if_pos c17] at H
   obtain ⟨c17b0, c17b1⟩ := zT1 c17
   clear c17
   (first | rw [c17b0] | (simp only [i64_w, i32_w]; rw [c17b0]) | skip)
   obtain ⟨t1570, A18, H⟩ := zb H
   try dsimp only at H
   have H' := zA H
   clear H
   obtain ⟨Ao19, co19, eo19⟩ := kM HO1564.out
   subst eo19
   obtain ⟨Ao20, co20, eo20⟩ := kM HO1568.out
   subst eo20
   go_wp2_with (first | (go_at_call 20; (with_reducible refine (laws_likeInts.calls k _ _ t1562 _ _ t1566 t1570 _ ?side1 ?side2 ?side3 ?side4 A18.out).mono ?_); (case side1 => exact zS (kB HO1564.out).2.2); (case side2 => exact (kB HO1564.out).2.1); (case side3 => exact zS (kB HO1568.out).2.2); (case side4 => exact (kB HO1568.out).2.1); rintro e w' ⟨rfl, ⟨nd, rfl⟩⟩))
   go_meet
   case rel => exact ⟨_, (!t1570), zs, H', ⟨by first | omega | exact Nat.le_refl _⟩, ⟨zPM HO1557.out (fun _ hk => ⟨(zOL hk.1.1.2), ⟨(zOL hk.1.2), (zOL hk.1.1.1)⟩⟩)⟩, ⟨zPM HO1560.out (fun _ hk => ⟨(zOL hk.1.1.2), ⟨(zOL hk.1.2), (zOL hk.1.1.1)⟩⟩)⟩, ⟨zPM HO1564.out (fun _ hk => ⟨(zOL hk.1.1.2), ⟨(zOL hk.1.2), (zOL hk.1.1.1.2)⟩⟩)⟩, ⟨zPM HO1554.out (fun _ hk => ⟨(zOL hk.1.1.1), ⟨(zOL hk.1.1.2), (zOL hk.1.2)⟩⟩)⟩, ⟨zR BK1561.out⟩, ⟨zT HB.out GE1561.out⟩⟩
  rw [if_neg c17] at H
  obtain ⟨c17b0, c17b1⟩ := zT2 c17
  (first | rw [c17b0] | (simp only [i64_w, i32_w]; rw [c17b0]) | skip)
  have H' := zA H
  clear H
  go_wp2
  go_meet
  case rel => exact ⟨_, (true), zs, H', ⟨by first | omega | exact Nat.le_refl _⟩, ⟨zPM HO1557.out (fun _ hk => ⟨(zOL hk.1.1.2), ⟨(zOL hk.1.2), (zOL hk.1.1.1)⟩⟩)⟩, ⟨zPM HO1560.out (fun _ hk => ⟨(zOL hk.1.1.2), ⟨(zOL hk.1.2), (zOL hk.1.1.1)⟩⟩)⟩, ⟨zPM HO1564.out (fun _ hk => ⟨(zOL hk.1.1.2), ⟨(zOL hk.1.2), (zOL hk.1.1.1.2)⟩⟩)⟩, ⟨zPM HO1554.out (fun _ hk => ⟨(zOL hk.1.1.1), ⟨(zOL hk.1.1.2), (zOL hk.1.2)⟩⟩)⟩, ⟨zR BK1561.out⟩, ⟨zT HB.out GE1561.out⟩⟩
 case rest =>
  clear HC7
  try clear c1
  try clear c3
  try clear c7
  try clear c9
  try clear c17
  try clear hcz10_0
  try clear hcz10_1
  try clear hcz15_0
  try clear hcz15_1
  try clear hfz10_0
  try clear hfz10_1
  try clear hfz15_0
  try clear hfz15_1
  obtain ⟨kq, x56_6, rfl, HA, HJ6, HO_4, HO_5, HO_6, HO_1562001, BK1561, HB⟩ := hcut
  cases kq with
  | zero => exact absurd HA.out (by simp [laws_FnTraceResiduals.j0])
  | succ kj6 =>
   have H := HA.out
   clear HA
   simp only [laws_FnTraceResiduals.j0] at H
   by_cases c21 : x56_6 = true
   ·subst c21
    rw [if_pos rfl] at H
    exact absurd H (by simp)
   replace c21 := Bool.eq_false_iff.mpr c21
   subst c21
   rw [if_neg (show ¬ (false = true) by decide)] at H
   by_cases c22 : t1565 = 0
   ·rw [if_pos c22] at H
    obtain ⟨c22b0, c22b1⟩ := zT1 c22
    clear c22
    obtain ⟨⟨t1571, t1574⟩, A23, H⟩ := zb H
    try dsimp only at H
    obtain ⟨⟨t1575, t1578⟩, A24, H⟩ := zb H
    try dsimp only at H
    obtain ⟨⟨t1579, t1582⟩, A25, H⟩ := zb H
    try dsimp only at H
    obtain ⟨⟨t1583, t1586⟩, A26, H⟩ := zb H
    try dsimp only at H
    have HC27 := zA H
    clear H
    obtain ⟨hcz28_0, hcz28_1, hfz28_0, hfz28_1⟩ := zB3 BK1561.out
    go_upto_region 14 with (first | (refine zO (some 63) Tryd.func38 #[.agg #[.int .i64 t1551, .slice Ao11 t1552.length co11], .slice Ao13 t1558.length co13, .slice Ao12 t1555.length co12] ?_; (with_reducible refine (impl_ResidualAfter.calls kj6 t1551 _ _ t1552 _ _ t1558 _ _ t1555 t1571 t1574 _ ?side1 ?side2 ?side3 ?side4 ?side5 ?side6 ?side7 A23.out).mono ?_); (case side1 => exact zS (kB HO_1562001.out).2.2); (case side2 => exact (kB HO_1562001.out).2.1); (case side3 => exact zS (kB HO_5.out).2.2); (case side4 => exact (kB HO_5.out).2.1); (case side5 => exact zS (kB HO_4.out).2.2); (case side6 => exact (kB HO_4.out).2.1); (case side7 => exact TabW.below HT.out (zT HB.out GE1561.out)); rintro e w29 ⟨v1572, rfl, ho0, hb⟩; refine ⟨_, rfl, ?_⟩; have HO1573 := zA (kI (kF (kF (kF (kF ho0 (kH (zP HO_4.out))) (kH (zP HO_5.out))) (kH (zP HO_6.out))) (kH (zP HO_1562001.out))) (kP (zT HB.out GE1561.out))); replace HO_4 := zA (kE (zP HO_4.out) (kC ho0) hb); replace HO_5 := zA (kE (zP HO_5.out) (kC ho0) hb); replace HO_6 := zA (kE (zP HO_6.out) (kC ho0) hb); replace HO_1562001 := zA (kE (zP HO_1562001.out) (kC ho0) hb); replace BK1561 := zA (zB1 BK1561.out hb); replace HB := zA (kQ (zT HB.out GE1561.out) hb); (try clear hb); (try clear ho0); obtain ⟨hcz30_0, hcz30_1, hfz30_0, hfz30_1⟩ := zB3 BK1561.out) | (refine zO (some 70) Tryd.func40 #[.agg #[.int .i64 t1551, .slice Ao11 t1552.length co11], .slice Ao12 t1555.length co12, .slice Ao13 t1558.length co13] ?_; (with_reducible refine (impl_JoinOf.calls kj6 t1551 (fun k_ => some k_ = (.slice Ao11 t1552.length co11 : Value).ownBlock) _ _ t1552 (fun k_ => some k_ = (.slice Ao12 t1555.length co12 : Value).ownBlock) _ _ t1555 (fun k_ => some k_ = (.slice Ao13 t1558.length co13 : Value).ownBlock) _ _ t1558 t1575 t1578 _ ?side1 ?side2 ?side3 ?side4 A24.out).mono ?_); (case side1 => exact jL (jK rfl (kD (HO_1562001.out) BK1561.out (by decide)))); (case side2 => exact jL (jK rfl (kD (HO_4.out) BK1561.out (by decide)))); (case side3 => exact jL (jK rfl (kD (HO_5.out) BK1561.out (by decide)))); (case side4 => exact TabW.below HT.out (zT HB.out GE1561.out)); rintro e w31 ⟨v1576, rfl, ho0, hb⟩; refine ⟨_, rfl, ?_⟩; have HO1577 := zA (kI (kF (kF (kF (kF (kF (kA (ok' := fun k_ => True) ho0 (fun _ hk_ => trivial)) (kH (zP HO_4.out))) (kH (zP HO_5.out))) (kH (zP HO_6.out))) (kH (zP HO_1562001.out))) (kH (zP HO1573.out))) (kP (zT HB.out GE1561.out))); replace HO_4 := zA (kE (zP HO_4.out) (kC ho0) hb); replace HO_5 := zA (kE (zP HO_5.out) (kC ho0) hb); replace HO_6 := zA (kE (zP HO_6.out) (kC ho0) hb); replace HO_1562001 := zA (kE (zP HO_1562001.out) (kC ho0) hb); replace HO1573 := zA (kE (zP HO1573.out) (kC ho0) hb); replace BK1561 := zA (zB1 BK1561.out hb); replace HB := zA (kQ (zT HB.out GE1561.out) hb); (try clear hb); (try clear ho0); obtain ⟨hcz32_0, hcz32_1, hfz32_0, hfz32_1⟩ := zB3 BK1561.out; obtain ⟨Ao33, co33, eo33⟩ := kM HO_6.out; subst eo33) | (refine zO (some 77) Tryd.func25 #[.agg #[.int .i64 t1551, .slice Ao11 t1552.length co11], .slice Ao12 t1555.length co12, .slice Ao33 t1562.length co33] ?_; (with_reducible refine (impl_Concatenate.calls kj6 t1551 (fun k_ => some k_ = (.slice Ao11 t1552.length co11 : Value).ownBlock) _ _ t1552 (fun k_ => some k_ = (.slice Ao12 t1555.length co12 : Value).ownBlock) _ _ t1555 (fun k_ => some k_ = (.slice Ao33 t1562.length co33 : Value).ownBlock) _ _ t1562 t1579 t1582 _ ?side1 ?side2 ?side3 ?side4 A25.out).mono ?_); (case side1 => exact jL (jK rfl (kD (HO_1562001.out) BK1561.out (by decide)))); (case side2 => exact jL (jK rfl (kD (HO_4.out) BK1561.out (by decide)))); (case side3 => exact jL (jK rfl (kD (HO_6.out) BK1561.out (by decide)))); (case side4 => exact TabW.below HT.out (zT HB.out GE1561.out)); rintro e w34 ⟨v1580, rfl, ho0, hb⟩; refine ⟨_, rfl, ?_⟩; have HO1581 := zA (kI (kF (kF (kF (kF (kF (kF (kA (ok' := fun k_ => True) ho0 (fun _ hk_ => trivial)) (kH (zP HO_4.out))) (kH (zP HO_5.out))) (kH (zP HO_6.out))) (kH (zP HO_1562001.out))) (kH (zP HO1573.out))) (kH (zP HO1577.out))) (kP (zT HB.out GE1561.out))); replace HO_4 := zA (kE (zP HO_4.out) (kC ho0) hb); replace HO_5 := zA (kE (zP HO_5.out) (kC ho0) hb); replace HO_6 := zA (kE (zP HO_6.out) (kC ho0) hb); replace HO_1562001 := zA (kE (zP HO_1562001.out) (kC ho0) hb); replace HO1573 := zA (kE (zP HO1573.out) (kC ho0) hb); replace HO1577 := zA (kE (zP HO1577.out) (kC ho0) hb); replace BK1561 := zA (zB1 BK1561.out hb); replace HB := zA (kQ (zT HB.out GE1561.out) hb); (try clear hb); (try clear ho0); obtain ⟨hcz35_0, hcz35_1, hfz35_0, hfz35_1⟩ := zB3 BK1561.out; obtain ⟨Ao36, co36, eo36⟩ := kM HO1573.out; subst eo36) | (refine zO (some 84) Tryd.func25 #[.agg #[.int .i64 t1551, .slice Ao11 t1552.length co11], .slice Ao13 t1558.length co13, .slice Ao36 t1571.length co36] ?_; (with_reducible refine (impl_Concatenate.calls kj6 t1551 (fun k_ => some k_ = (.slice Ao11 t1552.length co11 : Value).ownBlock) _ _ t1552 (fun k_ => some k_ = (.slice Ao13 t1558.length co13 : Value).ownBlock) _ _ t1558 (fun k_ => some k_ = (.slice Ao36 t1571.length co36 : Value).ownBlock) _ _ t1571 t1583 t1586 _ ?side1 ?side2 ?side3 ?side4 A26.out).mono ?_); (case side1 => exact jL (jK rfl (kD (HO_1562001.out) BK1561.out (by decide)))); (case side2 => exact jL (jK rfl (kD (HO_5.out) BK1561.out (by decide)))); (case side3 => exact jL (jK rfl (kD (HO1573.out) BK1561.out (by decide)))); (case side4 => exact TabW.below HT.out (zT HB.out GE1561.out)); rintro e w37 ⟨v1584, rfl, ho0, hb⟩; refine ⟨_, rfl, ?_⟩; have HO1585 := zA (kI (kF (kF (kF (kF (kF (kF (kF (kA (ok' := fun k_ => True) ho0 (fun _ hk_ => trivial)) (kH (zP HO_4.out))) (kH (zP HO_5.out))) (kH (zP HO_6.out))) (kH (zP HO_1562001.out))) (kH (zP HO1573.out))) (kH (zP HO1577.out))) (kH (zP HO1581.out))) (kP (zT HB.out GE1561.out))); replace HO_4 := zA (kE (zP HO_4.out) (kC ho0) hb); replace HO_5 := zA (kE (zP HO_5.out) (kC ho0) hb); replace HO_6 := zA (kE (zP HO_6.out) (kC ho0) hb); replace HO_1562001 := zA (kE (zP HO_1562001.out) (kC ho0) hb); replace HO1573 := zA (kE (zP HO1573.out) (kC ho0) hb); replace HO1577 := zA (kE (zP HO1577.out) (kC ho0) hb); replace HO1581 := zA (kE (zP HO1581.out) (kC ho0) hb); replace BK1561 := zA (zB1 BK1561.out hb); replace HB := zA (kQ (zT HB.out GE1561.out) hb); (try clear hb); (try clear ho0)))
    (try simp only [Act.put, zL, zM, zN])
    go_cut [112] (fun v112 wc => ∃ (kq : Nat) (x112_26 : Bool), v112 = .bool x112_26 ∧ Aside0 (laws_FnTraceResiduals.j1 kq l0 t1555 t1562 t1575 x112_26 t1551 t1552 = some r) ∧ Aside0 (kq ≤ kj6) ∧ Aside0 (Kd.R (Kd.int .i64) 2 wc w.heap.size (fun k_ => some k_ ≠ ((.slice Ao33 t1562.length co33) : Value).ownBlock ∧ some k_ ≠ (v1576 : Value).ownBlock ∧ some k_ ≠ ((.slice Ao11 t1552.length co11) : Value).ownBlock) (.slice Ao12 t1555.length co12) t1555) ∧ Aside0 (Kd.R (Kd.int .i64) 2 wc w.heap.size (fun k_ => some k_ ≠ ((.slice Ao12 t1555.length co12) : Value).ownBlock ∧ some k_ ≠ (v1576 : Value).ownBlock ∧ some k_ ≠ ((.slice Ao11 t1552.length co11) : Value).ownBlock) (.slice Ao33 t1562.length co33) t1562) ∧ Aside0 (Kd.R (Kd.int .i64) 2 wc w.heap.size (fun k_ => some k_ ≠ ((.slice Ao12 t1555.length co12) : Value).ownBlock ∧ some k_ ≠ ((.slice Ao33 t1562.length co33) : Value).ownBlock ∧ some k_ ≠ ((.slice Ao11 t1552.length co11) : Value).ownBlock) v1576 t1575) ∧ Aside0 (Kd.R (Kd.int .i64) 2 wc w.heap.size (fun k_ => some k_ ≠ ((.slice Ao12 t1555.length co12) : Value).ownBlock ∧ some k_ ≠ ((.slice Ao33 t1562.length co33) : Value).ownBlock ∧ some k_ ≠ (v1576 : Value).ownBlock) (.slice Ao11 t1552.length co11) t1552) ∧ Aside0 (wc.heap[gb1561]? = some (.cells #[.int .i64 t1551, (.slice Ao11 t1552.length co11)] 26 (0, 0))) ∧ Aside0 (Below w.heap.size w wc))
    case first => as_aux_lemma =>
     have H := HC27.out
     clear HC27
     by_cases c38 : t1574 = 0
     ·rw [if_pos c38] at H
      obtain ⟨c38b0, c38b1⟩ := zT1 c38
      clear c38
      (first | rw [c38b0] | (simp only [i64_w, i32_w]; rw [c38b0]) | skip)
      by_cases c39 : t1578 = 0
      ·rw [if_pos c39] at H
       obtain ⟨c39b0, c39b1⟩ := zT1 c39
       clear c39
       by_cases c40 : t1582 = 0
       ·rw [if_pos c40] at H
        obtain ⟨c40b0, c40b1⟩ := zT1 c40
        clear c40
        by_cases c41 : t1586 = 0
        ·rw [if_pos c41] at H
         obtain ⟨c41b0, c41b1⟩ := zT1 c41
         clear c41
         obtain ⟨t1587, A42, H⟩ := zb H
         try dsimp only at H
         by_cases c43 : t1587 = true
         ·subst c43
          rw [if_pos rfl] at H
          obtain ⟨t1588, A44, H⟩ := zb H
          try dsimp only at H
          have H' := zA H
          clear H
          obtain ⟨Ao45, co45, eo45⟩ := kM HO1581.out
          subst eo45
          obtain ⟨Ao46, co46, eo46⟩ := kM HO1577.out
          subst eo46
          go_wp2_with (first | (go_at_call 20; (with_reducible refine (laws_likeInts.calls kj6 _ _ t1579 _ _ t1575 true _ ?side1 ?side2 ?side3 ?side4 A42.out).mono ?_); (case side1 => exact zS (kB HO1581.out).2.2); (case side2 => exact (kB HO1581.out).2.1); (case side3 => exact zS (kB HO1577.out).2.2); (case side4 => exact (kB HO1577.out).2.1); rintro e w' ⟨rfl, ⟨nd, rfl⟩⟩; obtain ⟨Ao47, co47, eo47⟩ := kM HO1585.out; subst eo47) | (go_at_call 20; (with_reducible refine (laws_likeInts.calls kj6 _ _ t1583 _ _ t1575 t1588 _ ?side1 ?side2 ?side3 ?side4 A44.out).mono ?_); (case side1 => exact zS (kB HO1585.out).2.2); (case side2 => exact (kB HO1585.out).2.1); (case side3 => exact zS (kB HO1577.out).2.2); (case side4 => exact (kB HO1577.out).2.1); rintro e w' ⟨rfl, ⟨nd, rfl⟩⟩))
          go_meet
          case rel => exact ⟨_, (!t1588), zs, H', ⟨by have := HJ6.out; first | omega | exact Nat.le_refl _⟩, ⟨zPM HO_4.out (fun _ hk => ⟨(zOL hk.1.1.1.1.2.1), ⟨(zOL hk.1.1.2), (zOL hk.1.1.1.1.2.2)⟩⟩)⟩, ⟨zPM HO_6.out (fun _ hk => ⟨(zOL hk.1.1.1.1.1), ⟨(zOL hk.1.1.2), (zOL hk.1.1.1.1.2.2)⟩⟩)⟩, ⟨zPM HO1577.out (fun _ hk => ⟨(zOL hk.1.1.1.1.1.1.2), ⟨(zOL hk.1.1.1.1.2), (zOL hk.1.1.1.2)⟩⟩)⟩, ⟨zPM HO_1562001.out (fun _ hk => ⟨(zOL hk.1.1.1.1.1), ⟨(zOL hk.1.1.1.1.2.2), (zOL hk.1.1.2)⟩⟩)⟩, ⟨zR BK1561.out⟩, ⟨zT HB.out GE1561.out⟩⟩
         replace c43 := Bool.eq_false_iff.mpr c43
         subst c43
         rw [if_neg (show ¬ (false = true) by decide)] at H
         have H' := zA H
         clear H
         obtain ⟨Ao48, co48, eo48⟩ := kM HO1581.out
         subst eo48
         obtain ⟨Ao49, co49, eo49⟩ := kM HO1577.out
         subst eo49
         go_wp2_with (first | (go_at_call 20; (with_reducible refine (laws_likeInts.calls kj6 _ _ t1579 _ _ t1575 false _ ?side1 ?side2 ?side3 ?side4 A42.out).mono ?_); (case side1 => exact zS (kB HO1581.out).2.2); (case side2 => exact (kB HO1581.out).2.1); (case side3 => exact zS (kB HO1577.out).2.2); (case side4 => exact (kB HO1577.out).2.1); rintro e w' ⟨rfl, ⟨nd, rfl⟩⟩))
         go_meet
         case rel => exact ⟨_, (true), zs, H', ⟨by have := HJ6.out; first | omega | exact Nat.le_refl _⟩, ⟨zPM HO_4.out (fun _ hk => ⟨(zOL hk.1.1.1.1.2.1), ⟨(zOL hk.1.1.2), (zOL hk.1.1.1.1.2.2)⟩⟩)⟩, ⟨zPM HO_6.out (fun _ hk => ⟨(zOL hk.1.1.1.1.1), ⟨(zOL hk.1.1.2), (zOL hk.1.1.1.1.2.2)⟩⟩)⟩, ⟨zPM HO1577.out (fun _ hk => ⟨(zOL hk.1.1.1.1.1.1.2), ⟨(zOL hk.1.1.1.1.2), (zOL hk.1.1.1.2)⟩⟩)⟩, ⟨zPM HO_1562001.out (fun _ hk => ⟨(zOL hk.1.1.1.1.1), ⟨(zOL hk.1.1.1.1.2.2), (zOL hk.1.1.2)⟩⟩)⟩, ⟨zR BK1561.out⟩, ⟨zT HB.out GE1561.out⟩⟩
        rw [if_neg c41] at H
        obtain ⟨c41b0, c41b1⟩ := zT2 c41
        have H' := zA H
        clear H
        go_wp2
        go_meet
        case rel => exact ⟨_, (true), zs, H', ⟨by have := HJ6.out; first | omega | exact Nat.le_refl _⟩, ⟨zPM HO_4.out (fun _ hk => ⟨(zOL hk.1.1.1.1.2.1), ⟨(zOL hk.1.1.2), (zOL hk.1.1.1.1.2.2)⟩⟩)⟩, ⟨zPM HO_6.out (fun _ hk => ⟨(zOL hk.1.1.1.1.1), ⟨(zOL hk.1.1.2), (zOL hk.1.1.1.1.2.2)⟩⟩)⟩, ⟨zPM HO1577.out (fun _ hk => ⟨(zOL hk.1.1.1.1.1.1.2), ⟨(zOL hk.1.1.1.1.2), (zOL hk.1.1.1.2)⟩⟩)⟩, ⟨zPM HO_1562001.out (fun _ hk => ⟨(zOL hk.1.1.1.1.1), ⟨(zOL hk.1.1.1.1.2.2), (zOL hk.1.1.2)⟩⟩)⟩, ⟨zR BK1561.out⟩, ⟨zT HB.out GE1561.out⟩⟩
       rw [if_neg c40] at H
       obtain ⟨c40b0, c40b1⟩ := zT2 c40
       have H' := zA H
       clear H
       go_wp2
       go_meet
       case rel => exact ⟨_, (true), zs, H', ⟨by have := HJ6.out; first | omega | exact Nat.le_refl _⟩, ⟨zPM HO_4.out (fun _ hk => ⟨(zOL hk.1.1.1.1.2.1), ⟨(zOL hk.1.1.2), (zOL hk.1.1.1.1.2.2)⟩⟩)⟩, ⟨zPM HO_6.out (fun _ hk => ⟨(zOL hk.1.1.1.1.1), ⟨(zOL hk.1.1.2), (zOL hk.1.1.1.1.2.2)⟩⟩)⟩, ⟨zPM HO1577.out (fun _ hk => ⟨(zOL hk.1.1.1.1.1.1.2), ⟨(zOL hk.1.1.1.1.2), (zOL hk.1.1.1.2)⟩⟩)⟩, ⟨zPM HO_1562001.out (fun _ hk => ⟨(zOL hk.1.1.1.1.1), ⟨(zOL hk.1.1.1.1.2.2), (zOL hk.1.1.2)⟩⟩)⟩, ⟨zR BK1561.out⟩, ⟨zT HB.out GE1561.out⟩⟩
      rw [if_neg c39] at H
      obtain ⟨c39b0, c39b1⟩ := zT2 c39
      have H' := zA H
      clear H
      go_wp2
      go_meet
      case rel => exact ⟨_, (true), zs, H', ⟨by have := HJ6.out; first | omega | exact Nat.le_refl _⟩, ⟨zPM HO_4.out (fun _ hk => ⟨(zOL hk.1.1.1.1.2.1), ⟨(zOL hk.1.1.2), (zOL hk.1.1.1.1.2.2)⟩⟩)⟩, ⟨zPM HO_6.out (fun _ hk => ⟨(zOL hk.1.1.1.1.1), ⟨(zOL hk.1.1.2), (zOL hk.1.1.1.1.2.2)⟩⟩)⟩, ⟨zPM HO1577.out (fun _ hk => ⟨(zOL hk.1.1.1.1.1.1.2), ⟨(zOL hk.1.1.1.1.2), (zOL hk.1.1.1.2)⟩⟩)⟩, ⟨zPM HO_1562001.out (fun _ hk => ⟨(zOL hk.1.1.1.1.1), ⟨(zOL hk.1.1.1.1.2.2), (zOL hk.1.1.2)⟩⟩)⟩, ⟨zR BK1561.out⟩, ⟨zT HB.out GE1561.out⟩⟩
     rw [if_neg c38] at H
     obtain ⟨c38b0, c38b1⟩ := zT2 c38
     (first | rw [c38b0] | (simp only [i64_w, i32_w]; rw [c38b0]) | skip)
     have H' := zA H
     clear H
     go_wp2
     go_meet
     case rel => exact ⟨_, (true), zs, H', ⟨by have := HJ6.out; first | omega | exact Nat.le_refl _⟩, ⟨zPM HO_4.out (fun _ hk => ⟨(zOL hk.1.1.1.1.2.1), ⟨(zOL hk.1.1.2), (zOL hk.1.1.1.1.2.2)⟩⟩)⟩, ⟨zPM HO_6.out (fun _ hk => ⟨(zOL hk.1.1.1.1.1), ⟨(zOL hk.1.1.2), (zOL hk.1.1.1.1.2.2)⟩⟩)⟩, ⟨zPM HO1577.out (fun _ hk => ⟨(zOL hk.1.1.1.1.1.1.2), ⟨(zOL hk.1.1.1.1.2), (zOL hk.1.1.1.2)⟩⟩)⟩, ⟨zPM HO_1562001.out (fun _ hk => ⟨(zOL hk.1.1.1.1.1), ⟨(zOL hk.1.1.1.1.2.2), (zOL hk.1.1.2)⟩⟩)⟩, ⟨zR BK1561.out⟩, ⟨zT HB.out GE1561.out⟩⟩
    case rest =>
     clear HC27
     try clear c1
     try clear c2
     try clear c3
     try clear c4
     try clear c7
     try clear c9
     try clear c17
     try clear c21
     try clear c22
     try clear c25
     try clear c37
     try clear c38
     try clear c39
     try clear c40
     try clear c41
     try clear c43
     try clear hcz10_0
     try clear hcz10_1
     try clear hcz15_0
     try clear hcz15_1
     try clear hcz28_0
     try clear hcz28_1
     try clear hcz30_0
     try clear hcz30_1
     try clear hcz32_0
     try clear hcz32_1
     try clear hcz35_0
     try clear hcz35_1
     try clear hfz10_0
     try clear hfz10_1
     try clear hfz15_0
     try clear hfz15_1
     try clear hfz28_0
     try clear hfz28_1
     try clear hfz30_0
     try clear hfz30_1
     try clear hfz32_0
     try clear hfz32_1
     try clear hfz35_0
     try clear hfz35_1
     obtain ⟨kq, x112_26, rfl, HA, HJ26, HO_4, HO_6, HO_12, HO_1562001, BK1561, HB⟩ := hcut
     cases kq with
     | zero => exact absurd HA.out (by simp [laws_FnTraceResiduals.j1])
     | succ kj26 =>
      have H := HA.out
      clear HA
      simp only [laws_FnTraceResiduals.j1] at H
      by_cases c50 : x112_26 = true
      ·subst c50
       rw [if_pos rfl] at H
       exact absurd H (by simp)
      replace c50 := Bool.eq_false_iff.mpr c50
      subst c50
      rw [if_neg (show ¬ (false = true) by decide)] at H
      obtain ⟨⟨t1589, t1590, t1591⟩, A51, H⟩ := zb H
      try dsimp only at H
      obtain ⟨⟨t1593, t1596, t1597⟩, A52, H⟩ := zb H
      try dsimp only at H
      obtain ⟨⟨t1598, t1599, t1600⟩, A53, H⟩ := zb H
      try dsimp only at H
      by_cases c54 : 0 ≤ t1598
      ·rw [if_pos c54] at H
       have c54b0 := eq_true c54
       have c54b1 : decide (0 ≤ t1598) = true := decide_eq_true c54
       clear c54
       by_cases c55 : t1598 ≤ (t1593.length : Int)
       ·rw [if_pos c55] at H
        have c55b0 := eq_true c55
        have c55b1 : decide (t1598 ≤ (t1593.length : Int)) = true := decide_eq_true c55
        clear c55
        obtain ⟨y1601, hy1601⟩ : ∃ y_ : List Int, y_ = (t1593.take (t1598 : Int).toNat) := ⟨_, rfl⟩
        replace H : (if t1551 > 0 then ((laws_dice_below.f t1589 t1599 t1600 3).bind fun bt1604 => (if bt1604.1 = 0 then (laws_FnTraceResiduals.j2 kj26 t1555 t1562 t1575 y1601 (decide ((y1601.length : Int) < 20)) t1551 t1552 t1589 bt1604.2.1 bt1604.2.2) else (laws_FnTraceResiduals.j2 kj26 t1555 t1562 t1575 y1601 false t1551 t1552 t1589 bt1604.2.1 bt1604.2.2))) else (laws_FnTraceResiduals.j2 kj26 t1555 t1562 t1575 y1601 false t1551 t1552 t1589 t1599 t1600)) = some r := zy hy1601 H
        have Ny1601 := zA hy1601
        clear hy1601
        have HC56 := zA H
        clear H
        go_upto_region 19 with (first | (refine zO (some 114) Tryd.func41 #[.slice A0 l0.length c0, .int .u64 510] ?_; (with_reducible refine (laws_roll.calls kj26 _ _ l0 510 t1589 t1590 t1591 w _ ?side1 ?side2 ?side3 A51.out).mono ?_); (case side1 => exact zT HB.out GE1561.out); (case side2 => exact HR0.out); (case side3 => exact HC0.out); rintro e w57 ⟨g1592, rfl, hi, hb, hb2, hgw⟩; refine ⟨_, rfl, ?_⟩; replace HO_4 := zA (kL (zP HO_4.out) hb2); replace HO_6 := zA (kL (zP HO_6.out) hb2); replace HO_12 := zA (kL (zP HO_12.out) hb2); replace HO_1562001 := zA (kL (zP HO_1562001.out) hb2); replace HB := zA (hb); have HI1592 := zA (hi); have NB1592_1561 := zA (Z81.ne_blk hi (blk_below (g := gb1561) (o := .cells #[.int .i64 t1551, .slice Ao11 t1552.length co11] 26 (0, 0)) (zR BK1561.out) hb2) (by decide)); have NB1561_1592 := zA (Ne.symm (Z81.ne_blk hi (blk_below (g := gb1561) (o := .cells #[.int .i64 t1551, .slice Ao11 t1552.length co11] 26 (0, 0)) (zR BK1561.out) hb2) (by decide))); replace BK1561 := zA (zB1 BK1561.out hb2); (try clear hb); (try clear hb2); (try clear hi); (try clear hgw); have hnb58 := NB1561_1592.out; have hnc58 := NB1592_1561.out; obtain ⟨hcz59_0, hcz59_1, hfz59_0, hfz59_1⟩ := zB3 BK1561.out; obtain ⟨Ao60, co60, eo60⟩ := kM HO_12.out; subst eo60) | (refine zO (some 118) Tryd.func42 #[.pointer (some ⟨g1592, 0, none⟩), .agg #[.int .i64 t1551, .slice Ao11 t1552.length co11], .slice Ao60 t1575.length co60] ?_; (with_reducible refine (laws_shuffle5.calls kj26 g1592 t1589 t1590 t1591 t1551 _ _ t1552 _ _ t1575 t1593 t1596 t1597 w _ ?side1 ?side2 ?side3 ?side4 ?side5 ?side6 ?side7 ?side8 A52.out).mono ?_); (case side1 => exact Z81.uB HI1592.out NB1592_1561.out); (case side2 => exact zV HB.out (Z81.ge HI1592.out) GE1561.out); (case side3 => exact zS (kB HO_1562001.out).2.2); (case side4 => exact (kB HO_1562001.out).2.1); (case side5 => exact jJ (Z81.own_ne HI1592.out HO_1562001.out (by decide))); (case side6 => exact zS (kB HO_12.out).2.2); (case side7 => exact (kB HO_12.out).2.1); (case side8 => exact jJ (Z81.own_ne HI1592.out HO_12.out (by decide))); rintro e w61 ⟨v1594, rfl, ho0, hi, hb, hk⟩; refine ⟨_, rfl, ?_⟩; replace BK1561 := zA (zB2 hk BK1561.out NB1561_1592.out); have HO1595 := zA (kI (kF (kF (kF (kF ho0 (kH (zP HO_4.out))) (kH (zP HO_6.out))) (kH (zP HO_12.out))) (kH (zP HO_1562001.out))) (kP (zV HB.out (Z81.ge HI1592.out) GE1561.out))); replace HO_4 := zA (kA (Kd.R_told (Kd.R_oldK (Z81.apart (show Z81 w _ g1592 t1589 t1590 t1591 from Z81.uB HI1592.out NB1592_1561.out) (zP HO_4.out) (by decide)) hk) (kC ho0)) (fun _ h_ => h_.1)); replace HO_6 := zA (kA (Kd.R_told (Kd.R_oldK (Z81.apart (show Z81 w _ g1592 t1589 t1590 t1591 from Z81.uB HI1592.out NB1592_1561.out) (zP HO_6.out) (by decide)) hk) (kC ho0)) (fun _ h_ => h_.1)); replace HO_12 := zA (kA (Kd.R_told (Kd.R_oldK (Z81.apart (show Z81 w _ g1592 t1589 t1590 t1591 from Z81.uB HI1592.out NB1592_1561.out) (zP HO_12.out) (by decide)) hk) (kC ho0)) (fun _ h_ => h_.1)); replace HO_1562001 := zA (kA (Kd.R_told (Kd.R_oldK (Z81.apart (show Z81 w _ g1592 t1589 t1590 t1591 from Z81.uB HI1592.out NB1592_1561.out) (zP HO_1562001.out) (by decide)) hk) (kC ho0)) (fun _ h_ => h_.1)); replace HB := zA (hb); replace HI1592 := zA (hi); (try clear hb); (try clear hk); (try clear hi); (try clear ho0); obtain ⟨Ao62, co62, eo62⟩ := kM HO1595.out; subst eo62) | (refine zO (some 124) Tryd.func43 #[.pointer (some ⟨g1592, 0, none⟩), .int .i64 (wrap64 ((t1593.length : Int) + 1))] ?_; (with_reducible refine (laws_dice_below.calls g1592 t1589 t1596 t1597 (wrap64 ((t1593.length : Int) + 1)) t1598 t1599 t1600 w _ ?side1 ?side2 A53.out).mono ?_); (case side1 => exact Z81.uB HI1592.out NB1592_1561.out); (case side2 => exact zV HB.out (Z81.ge HI1592.out) GE1561.out); rintro e w63 ⟨rfl, hi, hb, hk⟩; refine ⟨_, rfl, ?_⟩; replace HO_4 := zA (zB9 (Z81.apart (show Z81 w _ g1592 t1589 t1596 t1597 from Z81.uB HI1592.out NB1592_1561.out) (zP HO_4.out) (by decide)) hk); replace HO_6 := zA (zB9 (Z81.apart (show Z81 w _ g1592 t1589 t1596 t1597 from Z81.uB HI1592.out NB1592_1561.out) (zP HO_6.out) (by decide)) hk); replace HO_12 := zA (zB9 (Z81.apart (show Z81 w _ g1592 t1589 t1596 t1597 from Z81.uB HI1592.out NB1592_1561.out) (zP HO_12.out) (by decide)) hk); replace HO_1562001 := zA (zB9 (Z81.apart (show Z81 w _ g1592 t1589 t1596 t1597 from Z81.uB HI1592.out NB1592_1561.out) (zP HO_1562001.out) (by decide)) hk); replace BK1561 := zA (zB2 hk BK1561.out NB1561_1592.out); replace HO1595 := zA (zB9 (Z81.apart (show Z81 w _ g1592 t1589 t1596 t1597 from Z81.uB HI1592.out NB1592_1561.out) (zP HO1595.out) (by decide)) hk); replace HB := zA (hb); replace HI1592 := zA (hi); (try clear hb); (try clear hk); (try clear hi); have q64 : (t1598 : Int) ≤ ((t1593.length : Int) : Int) := zd; obtain ⟨i064, hi064, _, hsz64, _⟩ := info_parts info2; have hcut64 := cut_to (P := Tryd.prog) 24 2 .i64 Tryd.underlying24 hi064 Ao62 t1593.length co62 t1598 (zd) q64 (kB HO1595.out).2.1; have hr64 := Kd.R_take (m := (t1598 : Int).toNat) HO1595.out (by omega); have hy64 : y1601.length = (t1598 : Int).toNat := (by rw [Ny1601.out, List.length_take]; omega); rw [← Ny1601.out] at hr64; rw [← hy64] at hr64 hcut64; clear hy64 hi064 hsz64 HO1595; have HO1603 := zA hr64; clear hr64; replace q64 := eq_true q64))
        (try simp only [Act.put, zL, zM, zN])
        go_cut [138] (fun v138 wc => ∃ (kq : Nat) (x138_55 : Bool) (x1593001_55 : Int) (x1593002_55 : Int), v138 = .bool x138_55 ∧ Aside0 (laws_FnTraceResiduals.j2 kq t1555 t1562 t1575 y1601 x138_55 t1551 t1552 t1589 x1593001_55 x1593002_55 = some r) ∧ Aside0 (kq ≤ kj26) ∧ Aside0 (Kd.R (Kd.int .i64) 2 wc w.heap.size (fun k_ => some k_ ≠ ((.slice Ao33 t1562.length co33) : Value).ownBlock ∧ some k_ ≠ ((.slice Ao60 t1575.length co60) : Value).ownBlock ∧ some k_ ≠ ((.slice Ao62 y1601.length co62) : Value).ownBlock ∧ some k_ ≠ ((.slice Ao11 t1552.length co11) : Value).ownBlock) (.slice Ao12 t1555.length co12) t1555) ∧ Aside0 (Kd.R (Kd.int .i64) 2 wc w.heap.size (fun k_ => some k_ ≠ ((.slice Ao12 t1555.length co12) : Value).ownBlock ∧ some k_ ≠ ((.slice Ao60 t1575.length co60) : Value).ownBlock ∧ some k_ ≠ ((.slice Ao62 y1601.length co62) : Value).ownBlock ∧ some k_ ≠ ((.slice Ao11 t1552.length co11) : Value).ownBlock) (.slice Ao33 t1562.length co33) t1562) ∧ Aside0 (Kd.R (Kd.int .i64) 2 wc w.heap.size (fun k_ => some k_ ≠ ((.slice Ao12 t1555.length co12) : Value).ownBlock ∧ some k_ ≠ ((.slice Ao33 t1562.length co33) : Value).ownBlock ∧ some k_ ≠ ((.slice Ao62 y1601.length co62) : Value).ownBlock ∧ some k_ ≠ ((.slice Ao11 t1552.length co11) : Value).ownBlock) (.slice Ao60 t1575.length co60) t1575) ∧ Aside0 (Kd.R (Kd.int .i64) 2 wc w.heap.size (fun k_ => some k_ ≠ ((.slice Ao12 t1555.length co12) : Value).ownBlock ∧ some k_ ≠ ((.slice Ao33 t1562.length co33) : Value).ownBlock ∧ some k_ ≠ ((.slice Ao60 t1575.length co60) : Value).ownBlock ∧ some k_ ≠ ((.slice Ao11 t1552.length co11) : Value).ownBlock) (.slice Ao62 y1601.length co62) y1601) ∧ Aside0 (Kd.R (Kd.int .i64) 2 wc w.heap.size (fun k_ => some k_ ≠ ((.slice Ao12 t1555.length co12) : Value).ownBlock ∧ some k_ ≠ ((.slice Ao33 t1562.length co33) : Value).ownBlock ∧ some k_ ≠ ((.slice Ao60 t1575.length co60) : Value).ownBlock ∧ some k_ ≠ ((.slice Ao62 y1601.length co62) : Value).ownBlock) (.slice Ao11 t1552.length co11) t1552) ∧ Aside0 (wc.heap[gb1561]? = some (.cells #[.int .i64 t1551, (.slice Ao11 t1552.length co11)] 26 (0, 0))) ∧ Aside0 (Z81 w wc g1592 t1589 x1593001_55 x1593002_55) ∧ Aside0 (Below w.heap.size w wc))
        case first => as_aux_lemma =>
         have H := HC56.out
         clear HC56
         by_cases c65 : t1551 > 0
         ·rw [if_pos c65] at H
          have c65b0 : decide (0 < t1551) = true := decide_eq_true c65
          clear c65
          (first | rw [c65b0] | (simp only [i64_w, i32_w]; rw [c65b0]) | skip)
          obtain ⟨⟨t1604, t1605, t1606⟩, A66, H⟩ := zb H
          try dsimp only at H
          by_cases c67 : t1604 = 0
          ·rw [if_pos c67] at H
           obtain ⟨c67b0, c67b1⟩ := zT1 c67
           clear c67
           have H' := zA H
           clear H
           have hnb68 := NB1561_1592.out
           have hnc68 := NB1592_1561.out
           obtain ⟨hcz69_0, hcz69_1, hfz69_0, hfz69_1⟩ := zB3 BK1561.out
           go_wp2_with (first | (go_at_call 43; (with_reducible refine (laws_dice_below.calls g1592 t1589 t1599 t1600 3 t1604 t1605 t1606 w _ ?side1 ?side2 A66.out).mono ?_); (case side1 => exact Z81.uB HI1592.out NB1592_1561.out); (case side2 => exact zV HB.out (Z81.ge HI1592.out) GE1561.out); rintro e w70 ⟨rfl, hi, hb, hk⟩; replace HO_4 := zA (zB9 (Z81.apart (show Z81 w _ g1592 t1589 t1599 t1600 from Z81.uB HI1592.out NB1592_1561.out) (zP HO_4.out) (by decide)) hk); replace HO_6 := zA (zB9 (Z81.apart (show Z81 w _ g1592 t1589 t1599 t1600 from Z81.uB HI1592.out NB1592_1561.out) (zP HO_6.out) (by decide)) hk); replace HO_12 := zA (zB9 (Z81.apart (show Z81 w _ g1592 t1589 t1599 t1600 from Z81.uB HI1592.out NB1592_1561.out) (zP HO_12.out) (by decide)) hk); replace HO_1562001 := zA (zB9 (Z81.apart (show Z81 w _ g1592 t1589 t1599 t1600 from Z81.uB HI1592.out NB1592_1561.out) (zP HO_1562001.out) (by decide)) hk); replace BK1561 := zA (zB2 hk BK1561.out NB1561_1592.out); replace HO1603 := zA (zB9 (Z81.apart (show Z81 w _ g1592 t1589 t1599 t1600 from Z81.uB HI1592.out NB1592_1561.out) (zP HO1603.out) (by decide)) hk); replace HB := zA (hb); replace HI1592 := zA (hi); (try clear hb); (try clear hk); (try clear hi)))
           go_meet
           case rel => exact ⟨_, (decide ((y1601.length : Int) < 20)), (t1605), (t1606), zs, H', ⟨by have := HJ6.out; have := HJ26.out; first | omega | exact Nat.le_refl _⟩, ⟨zPM HO_4.out (fun _ hk => ⟨(zOL hk.1.1), ⟨(zOL hk.1.2.1), ⟨(zOL hk.2), (zOL hk.1.2.2)⟩⟩⟩)⟩, ⟨zPM HO_6.out (fun _ hk => ⟨(zOL hk.1.1), ⟨(zOL hk.1.2.1), ⟨(zOL hk.2), (zOL hk.1.2.2)⟩⟩⟩)⟩, ⟨zPM HO_12.out (fun _ hk => ⟨(zOL hk.1.1), ⟨(zOL hk.1.2.1), ⟨(zOL hk.2), (zOL hk.1.2.2)⟩⟩⟩)⟩, ⟨zPM HO1603.out (fun _ hk => ⟨(zOL hk.1.1.1.2), ⟨(zOL hk.1.1.2), ⟨(zOL hk.1.2), (zOL hk.2)⟩⟩⟩)⟩, ⟨zPM HO_1562001.out (fun _ hk => ⟨(zOL hk.1.1), ⟨(zOL hk.1.2.1), ⟨(zOL hk.1.2.2), (zOL hk.2)⟩⟩⟩)⟩, ⟨zR BK1561.out⟩, ⟨Z81.uB HI1592.out NB1592_1561.out⟩, ⟨zV HB.out (Z81.ge HI1592.out) GE1561.out⟩⟩
          rw [if_neg c67] at H
          obtain ⟨c67b0, c67b1⟩ := zT2 c67
          have H' := zA H
          clear H
          have hnb71 := NB1561_1592.out
          have hnc71 := NB1592_1561.out
          obtain ⟨hcz72_0, hcz72_1, hfz72_0, hfz72_1⟩ := zB3 BK1561.out
          go_wp2_with (first | (go_at_call 43; (with_reducible refine (laws_dice_below.calls g1592 t1589 t1599 t1600 3 t1604 t1605 t1606 w _ ?side1 ?side2 A66.out).mono ?_); (case side1 => exact Z81.uB HI1592.out NB1592_1561.out); (case side2 => exact zV HB.out (Z81.ge HI1592.out) GE1561.out); rintro e w73 ⟨rfl, hi, hb, hk⟩; replace HO_4 := zA (zB9 (Z81.apart (show Z81 w _ g1592 t1589 t1599 t1600 from Z81.uB HI1592.out NB1592_1561.out) (zP HO_4.out) (by decide)) hk); replace HO_6 := zA (zB9 (Z81.apart (show Z81 w _ g1592 t1589 t1599 t1600 from Z81.uB HI1592.out NB1592_1561.out) (zP HO_6.out) (by decide)) hk); replace HO_12 := zA (zB9 (Z81.apart (show Z81 w _ g1592 t1589 t1599 t1600 from Z81.uB HI1592.out NB1592_1561.out) (zP HO_12.out) (by decide)) hk); replace HO_1562001 := zA (zB9 (Z81.apart (show Z81 w _ g1592 t1589 t1599 t1600 from Z81.uB HI1592.out NB1592_1561.out) (zP HO_1562001.out) (by decide)) hk); replace BK1561 := zA (zB2 hk BK1561.out NB1561_1592.out); replace HO1603 := zA (zB9 (Z81.apart (show Z81 w _ g1592 t1589 t1599 t1600 from Z81.uB HI1592.out NB1592_1561.out) (zP HO1603.out) (by decide)) hk); replace HB := zA (hb); replace HI1592 := zA (hi); (try clear hb); (try clear hk); (try clear hi)))
          go_meet
          case rel => exact ⟨_, (false), (t1605), (t1606), zs, H', ⟨by have := HJ6.out; have := HJ26.out; first | omega | exact Nat.le_refl _⟩, ⟨zPM HO_4.out (fun _ hk => ⟨(zOL hk.1.1), ⟨(zOL hk.1.2.1), ⟨(zOL hk.2), (zOL hk.1.2.2)⟩⟩⟩)⟩, ⟨zPM HO_6.out (fun _ hk => ⟨(zOL hk.1.1), ⟨(zOL hk.1.2.1), ⟨(zOL hk.2), (zOL hk.1.2.2)⟩⟩⟩)⟩, ⟨zPM HO_12.out (fun _ hk => ⟨(zOL hk.1.1), ⟨(zOL hk.1.2.1), ⟨(zOL hk.2), (zOL hk.1.2.2)⟩⟩⟩)⟩, ⟨zPM HO1603.out (fun _ hk => ⟨(zOL hk.1.1.1.2), ⟨(zOL hk.1.1.2), ⟨(zOL hk.1.2), (zOL hk.2)⟩⟩⟩)⟩, ⟨zPM HO_1562001.out (fun _ hk => ⟨(zOL hk.1.1), ⟨(zOL hk.1.2.1), ⟨(zOL hk.1.2.2), (zOL hk.2)⟩⟩⟩)⟩, ⟨zR BK1561.out⟩, ⟨Z81.uB HI1592.out NB1592_1561.out⟩, ⟨zV HB.out (Z81.ge HI1592.out) GE1561.out⟩⟩
         rw [if_neg c65] at H
         have c65b0 : decide (0 < t1551) = false := decide_eq_false c65
         clear c65
         (first | rw [c65b0] | (simp only [i64_w, i32_w]; rw [c65b0]) | skip)
         have H' := zA H
         clear H
         have hnb74 := NB1561_1592.out
         have hnc74 := NB1592_1561.out
         obtain ⟨hcz75_0, hcz75_1, hfz75_0, hfz75_1⟩ := zB3 BK1561.out
         go_wp2
         go_meet
         case rel => exact ⟨_, (false), (t1599), (t1600), zs, H', ⟨by have := HJ6.out; have := HJ26.out; first | omega | exact Nat.le_refl _⟩, ⟨zPM HO_4.out (fun _ hk => ⟨(zOL hk.1.1), ⟨(zOL hk.1.2.1), ⟨(zOL hk.2), (zOL hk.1.2.2)⟩⟩⟩)⟩, ⟨zPM HO_6.out (fun _ hk => ⟨(zOL hk.1.1), ⟨(zOL hk.1.2.1), ⟨(zOL hk.2), (zOL hk.1.2.2)⟩⟩⟩)⟩, ⟨zPM HO_12.out (fun _ hk => ⟨(zOL hk.1.1), ⟨(zOL hk.1.2.1), ⟨(zOL hk.2), (zOL hk.1.2.2)⟩⟩⟩)⟩, ⟨zPM HO1603.out (fun _ hk => ⟨(zOL hk.1.1.1.2), ⟨(zOL hk.1.1.2), ⟨(zOL hk.1.2), (zOL hk.2)⟩⟩⟩)⟩, ⟨zPM HO_1562001.out (fun _ hk => ⟨(zOL hk.1.1), ⟨(zOL hk.1.2.1), ⟨(zOL hk.1.2.2), (zOL hk.2)⟩⟩⟩)⟩, ⟨zR BK1561.out⟩, ⟨Z81.uB HI1592.out NB1592_1561.out⟩, ⟨zV HB.out (Z81.ge HI1592.out) GE1561.out⟩⟩
        case rest =>
         clear HC56
         try clear c1
         try clear c2
         try clear c3
         try clear c4
         try clear c5
         try clear c6
         try clear c7
         try clear c9
         try clear c17
         try clear c21
         try clear c22
         try clear c25
         try clear c37
         try clear c38
         try clear c39
         try clear c40
         try clear c41
         try clear c42
         try clear c43
         try clear c50
         try clear c54
         try clear c55
         try clear c58
         try clear c65
         try clear c67
         try clear c68
         try clear c71
         try clear c74
         try clear hcz10_0
         try clear hcz10_1
         try clear hcz15_0
         try clear hcz15_1
         try clear hcz28_0
         try clear hcz28_1
         try clear hcz30_0
         try clear hcz30_1
         try clear hcz32_0
         try clear hcz32_1
         try clear hcz35_0
         try clear hcz35_1
         try clear hcz59_0
         try clear hcz59_1
         try clear hcz69_0
         try clear hcz69_1
         try clear hcz72_0
         try clear hcz72_1
         try clear hcz75_0
         try clear hcz75_1
         try clear hfz10_0
         try clear hfz10_1
         try clear hfz15_0
         try clear hfz15_1
         try clear hfz28_0
         try clear hfz28_1
         try clear hfz30_0
         try clear hfz30_1
         try clear hfz32_0
         try clear hfz32_1
         try clear hfz35_0
         try clear hfz35_1
         try clear hfz59_0
         try clear hfz59_1
         try clear hfz69_0
         try clear hfz69_1
         try clear hfz72_0
         try clear hfz72_1
         try clear hfz75_0
         try clear hfz75_1
         obtain ⟨kq, x138_55, x1593001_55, x1593002_55, rfl, HA, HJ55, HO_4, HO_6, HO_12, HO_19, HO_1562001, BK1561, HI1592, HB⟩ := hcut
         cases kq with
         | zero => exact absurd HA.out (by simp [laws_FnTraceResiduals.j2])
         | succ kj55 =>
          have H := HA.out
          clear HA
          simp only [laws_FnTraceResiduals.j2] at H
          have HC76 := zA H
          clear H
          go_upto_if 138 with (fail)
          go_cut [19] (fun v19 wc => ∃ (kq : Nat) (x19_75 : List Int), Aside0 (laws_FnTraceResiduals.j3 kq t1555 t1562 t1575 x19_75 t1551 t1552 = some r) ∧ Aside0 (kq ≤ kj55) ∧ Aside0 (Kd.R (Kd.int .i64) 2 wc w.heap.size (fun k_ => some k_ ≠ ((.slice Ao33 t1562.length co33) : Value).ownBlock ∧ some k_ ≠ ((.slice Ao60 t1575.length co60) : Value).ownBlock ∧ some k_ ≠ (v19 : Value).ownBlock ∧ some k_ ≠ ((.slice Ao11 t1552.length co11) : Value).ownBlock) (.slice Ao12 t1555.length co12) t1555) ∧ Aside0 (Kd.R (Kd.int .i64) 2 wc w.heap.size (fun k_ => some k_ ≠ ((.slice Ao12 t1555.length co12) : Value).ownBlock ∧ some k_ ≠ ((.slice Ao60 t1575.length co60) : Value).ownBlock ∧ some k_ ≠ (v19 : Value).ownBlock ∧ some k_ ≠ ((.slice Ao11 t1552.length co11) : Value).ownBlock) (.slice Ao33 t1562.length co33) t1562) ∧ Aside0 (Kd.R (Kd.int .i64) 2 wc w.heap.size (fun k_ => some k_ ≠ ((.slice Ao12 t1555.length co12) : Value).ownBlock ∧ some k_ ≠ ((.slice Ao33 t1562.length co33) : Value).ownBlock ∧ some k_ ≠ (v19 : Value).ownBlock ∧ some k_ ≠ ((.slice Ao11 t1552.length co11) : Value).ownBlock) (.slice Ao60 t1575.length co60) t1575) ∧ Aside0 (Kd.R (Kd.int .i64) 2 wc w.heap.size (fun k_ => some k_ ≠ ((.slice Ao12 t1555.length co12) : Value).ownBlock ∧ some k_ ≠ ((.slice Ao33 t1562.length co33) : Value).ownBlock ∧ some k_ ≠ ((.slice Ao60 t1575.length co60) : Value).ownBlock ∧ some k_ ≠ ((.slice Ao11 t1552.length co11) : Value).ownBlock) v19 x19_75) ∧ Aside0 (Kd.R (Kd.int .i64) 2 wc w.heap.size (fun k_ => some k_ ≠ ((.slice Ao12 t1555.length co12) : Value).ownBlock ∧ some k_ ≠ ((.slice Ao33 t1562.length co33) : Value).ownBlock ∧ some k_ ≠ ((.slice Ao60 t1575.length co60) : Value).ownBlock ∧ some k_ ≠ (v19 : Value).ownBlock) (.slice Ao11 t1552.length co11) t1552) ∧ Aside0 (wc.heap[gb1561]? = some (.cells #[.int .i64 t1551, (.slice Ao11 t1552.length co11)] 26 (0, 0))) ∧ Aside0 (Below w.heap.size w wc))
          case first => as_aux_lemma =>
           have H := HC76.out
           clear HC76
           by_cases c77 : x138_55 = true
           ·subst c77
            rw [if_pos rfl] at H
            obtain ⟨⟨t1607, t1608, t1609⟩, A78, H⟩ := zb H
            try dsimp only at H
            by_cases c79 : y1601.length < 17592186044416
            ·rw [if_pos c79] at H
             have LMc79 := zA c79
             clear c79
             obtain ⟨y1610, hy1610⟩ : ∃ y_ : List Int, y_ = (y1601 ++ [t1607]) := ⟨_, rfl⟩
             replace H : (laws_FnTraceResiduals.j3 kj55 t1555 t1562 t1575 y1610 t1551 t1552) = some r := zy hy1610 H
             have Ny1610 := zA hy1610
             clear hy1610
             have H' := zA H
             clear H
             have hnb80 := NB1561_1592.out
             have hnc80 := NB1592_1561.out
             obtain ⟨hcz81_0, hcz81_1, hfz81_0, hfz81_1⟩ := zB3 BK1561.out
             go_wp2_with (first | (refine zO (some 143) Tryd.func43 #[.pointer (some ⟨g1592, 0, none⟩), .int .i64 t1551] ?_; (with_reducible refine (laws_dice_below.calls g1592 t1589 x1593001_55 x1593002_55 t1551 t1607 t1608 t1609 w _ ?side1 ?side2 A78.out).mono ?_); (case side1 => exact Z81.uB HI1592.out NB1592_1561.out); (case side2 => exact zV HB.out (Z81.ge HI1592.out) GE1561.out); rintro e w82 ⟨rfl, hi, hb, hk⟩; refine ⟨_, rfl, ?_⟩; replace HO_4 := zA (zB9 (Z81.apart (show Z81 w _ g1592 t1589 x1593001_55 x1593002_55 from Z81.uB HI1592.out NB1592_1561.out) (zP HO_4.out) (by decide)) hk); replace HO_6 := zA (zB9 (Z81.apart (show Z81 w _ g1592 t1589 x1593001_55 x1593002_55 from Z81.uB HI1592.out NB1592_1561.out) (zP HO_6.out) (by decide)) hk); replace HO_12 := zA (zB9 (Z81.apart (show Z81 w _ g1592 t1589 x1593001_55 x1593002_55 from Z81.uB HI1592.out NB1592_1561.out) (zP HO_12.out) (by decide)) hk); replace HO_19 := zA (zB9 (Z81.apart (show Z81 w _ g1592 t1589 x1593001_55 x1593002_55 from Z81.uB HI1592.out NB1592_1561.out) (zP HO_19.out) (by decide)) hk); replace HO_1562001 := zA (zB9 (Z81.apart (show Z81 w _ g1592 t1589 x1593001_55 x1593002_55 from Z81.uB HI1592.out NB1592_1561.out) (zP HO_1562001.out) (by decide)) hk); replace BK1561 := zA (zB2 hk BK1561.out NB1561_1592.out); replace HB := zA (hb); replace HI1592 := zA (hi); (try clear hb); (try clear hk); (try clear hi)) | ((with_reducible refine gate_builtin (b := .append) (xs := #[.tmp 139, .tmp 144]) rfl ?_); at_builtin; refine Kd.R_append (Kd.int .i64) (w0 := w) w.heap.size rfl (.tmp 139) (.tmp 144) 24 2 (.int .i64 0) 8 rfl Tryd.underlying24 info2 rfl (by decide) (by omega) (.slice Ao62 y1601.length co62) y1601 t1607 [.int .i64 t1607] (fun k_ => some k_ ≠ (.slice Ao12 t1555.length co12 : Value).ownBlock ∧ some k_ ≠ (.slice Ao33 t1562.length co33 : Value).ownBlock ∧ some k_ ≠ (.slice Ao60 t1575.length co60 : Value).ownBlock ∧ some k_ ≠ (.slice Ao11 t1552.length co11 : Value).ownBlock) (fun _ => False) rfl rfl ?aP (fun _ hk => hk.elim) ?aF ?aO ?aB ?aS ?aL ?_; (case aP => exact rfl); (case aB => exact (zV HB.out (Z81.ge HI1592.out) GE1561.out)); (case aF => exact (fun k_ hk => ⟨jF (kH (zP HO_4.out)) k_ hk, jF (kH (zP HO_6.out)) k_ hk, jF (kH (zP HO_12.out)) k_ hk, jF (kH (zP HO_1562001.out)) k_ hk⟩)); (case aO => exact (zP HO_19.out)); (case aS => exact (kP (zV HB.out (Z81.ge HI1592.out) GE1561.out))); (case aL => have := LMc79.out; omega); intro v1611 w83 ho hb hg hat; rw [← Ny1610.out] at ho; replace HO_4 := zA (Kd.R_after (ok := (fun k_ => some k_ ≠ (.slice Ao33 t1562.length co33 : Value).ownBlock ∧ some k_ ≠ (.slice Ao60 t1575.length co60 : Value).ownBlock ∧ some k_ ≠ (.slice Ao11 t1552.length co11 : Value).ownBlock)) (by (with_reducible repeat (first | apply zF | apply zG | apply zH)); exact kA HO_4.out (fun _ hk => ⟨⟨hk.1, ⟨hk.2.1, hk.2.2.2⟩⟩, hk.2.2.1⟩)) hg hat); replace HO_6 := zA (Kd.R_after (ok := (fun k_ => some k_ ≠ (.slice Ao12 t1555.length co12 : Value).ownBlock ∧ some k_ ≠ (.slice Ao60 t1575.length co60 : Value).ownBlock ∧ some k_ ≠ (.slice Ao11 t1552.length co11 : Value).ownBlock)) (by (with_reducible repeat (first | apply zF | apply zG | apply zH)); exact kA HO_6.out (fun _ hk => ⟨⟨hk.1, ⟨hk.2.1, hk.2.2.2⟩⟩, hk.2.2.1⟩)) hg hat); replace HO_12 := zA (Kd.R_after (ok := (fun k_ => some k_ ≠ (.slice Ao12 t1555.length co12 : Value).ownBlock ∧ some k_ ≠ (.slice Ao33 t1562.length co33 : Value).ownBlock ∧ some k_ ≠ (.slice Ao11 t1552.length co11 : Value).ownBlock)) (by (with_reducible repeat (first | apply zF | apply zG | apply zH)); exact kA HO_12.out (fun _ hk => ⟨⟨hk.1, ⟨hk.2.1, hk.2.2.2⟩⟩, hk.2.2.1⟩)) hg hat); replace HO_1562001 := zA (Kd.R_after (ok := (fun k_ => some k_ ≠ (.slice Ao12 t1555.length co12 : Value).ownBlock ∧ some k_ ≠ (.slice Ao33 t1562.length co33 : Value).ownBlock ∧ some k_ ≠ (.slice Ao60 t1575.length co60 : Value).ownBlock)) (by (with_reducible repeat (first | apply zF | apply zG | apply zH)); exact kA HO_1562001.out (fun _ hk => ⟨⟨hk.1, ⟨hk.2.1, hk.2.2.1⟩⟩, hk.2.2.2⟩)) hg hat); replace BK1561 := zA (blk_grown (g := gb1561) (o := .cells #[.int .i64 t1551, .slice Ao11 t1552.length co11] 26 (0, 0)) (zR BK1561.out) hg (Kd.R_ne HO_19.out BK1561.out (by decide))); replace HI1592 := zA (Z81.grown (Z81.uB HI1592.out NB1592_1561.out) hg (Z81.own_ne HI1592.out HO_19.out (by decide))); replace HB := zA (hb); have HO1612 := zA (ho); clear HO_19; clear ho hb hg hat))
             go_meet
             case rel => exact ⟨_, (y1610), H', ⟨by have := HJ6.out; have := HJ26.out; have := HJ55.out; first | omega | exact Nat.le_refl _⟩, ⟨zPM HO_4.out (fun _ hk => ⟨(zOL hk.1.1), ⟨(zOL hk.1.2.1), ⟨(zOL hk.2), (zOL hk.1.2.2)⟩⟩⟩)⟩, ⟨zPM HO_6.out (fun _ hk => ⟨(zOL hk.1.1), ⟨(zOL hk.1.2.1), ⟨(zOL hk.2), (zOL hk.1.2.2)⟩⟩⟩)⟩, ⟨zPM HO_12.out (fun _ hk => ⟨(zOL hk.1.1), ⟨(zOL hk.1.2.1), ⟨(zOL hk.2), (zOL hk.1.2.2)⟩⟩⟩)⟩, ⟨zP HO1612.out⟩, ⟨zPM HO_1562001.out (fun _ hk => ⟨(zOL hk.1.1), ⟨(zOL hk.1.2.1), ⟨(zOL hk.1.2.2), (zOL hk.2)⟩⟩⟩)⟩, ⟨zR BK1561.out⟩, ⟨zV HB.out (Z81.ge HI1592.out) GE1561.out⟩⟩
            rw [if_neg c79] at H
            exact absurd H (by simp)
           replace c77 := Bool.eq_false_iff.mpr c77
           subst c77
           rw [if_neg (show ¬ (false = true) by decide)] at H
           have H' := zA H
           clear H
           go_wp2
           go_meet
           case rel => exact ⟨_, (y1601), H', ⟨by have := HJ6.out; have := HJ26.out; have := HJ55.out; first | omega | exact Nat.le_refl _⟩, ⟨zP HO_4.out⟩, ⟨zP HO_6.out⟩, ⟨zP HO_12.out⟩, ⟨zP HO_19.out⟩, ⟨zP HO_1562001.out⟩, ⟨zR BK1561.out⟩, ⟨zV HB.out (Z81.ge HI1592.out) GE1561.out⟩⟩
          case rest =>
           clear HC76
           try clear c1
           try clear c2
           try clear c3
           try clear c4
           try clear c5
           try clear c6
           try clear c7
           try clear c8
           try clear c9
           try clear c17
           try clear c21
           try clear c22
           try clear c25
           try clear c37
           try clear c38
           try clear c39
           try clear c40
           try clear c41
           try clear c42
           try clear c43
           try clear c50
           try clear c54
           try clear c55
           try clear c58
           try clear c65
           try clear c67
           try clear c68
           try clear c71
           try clear c74
           try clear c77
           try clear c79
           try clear c80
           try clear hcz10_0
           try clear hcz10_1
           try clear hcz15_0
           try clear hcz15_1
           try clear hcz28_0
           try clear hcz28_1
           try clear hcz30_0
           try clear hcz30_1
           try clear hcz32_0
           try clear hcz32_1
           try clear hcz35_0
           try clear hcz35_1
           try clear hcz59_0
           try clear hcz59_1
           try clear hcz69_0
           try clear hcz69_1
           try clear hcz72_0
           try clear hcz72_1
           try clear hcz75_0
           try clear hcz75_1
           try clear hcz81_0
           try clear hcz81_1
           try clear hfz10_0
           try clear hfz10_1
           try clear hfz15_0
           try clear hfz15_1
           try clear hfz28_0
           try clear hfz28_1
           try clear hfz30_0
           try clear hfz30_1
           try clear hfz32_0
           try clear hfz32_1
           try clear hfz35_0
           try clear hfz35_1
           try clear hfz59_0
           try clear hfz59_1
           try clear hfz69_0
           try clear hfz69_1
           try clear hfz72_0
           try clear hfz72_1
           try clear hfz75_0
           try clear hfz75_1
           try clear hfz81_0
           try clear hfz81_1
           obtain ⟨kq, x19_75, HA, HJ75, HO_4, HO_6, HO_12, HO_19, HO_1562001, BK1561, HB⟩ := hcut
           cases kq with
           | zero => exact absurd HA.out (by simp [laws_FnTraceResiduals.j3])
           | succ kj75 =>
            have H := HA.out
            clear HA
            simp only [laws_FnTraceResiduals.j3] at H
            obtain ⟨⟨t1613, t1616⟩, A84, H⟩ := zb H
            try dsimp only at H
            obtain ⟨⟨t1617, t1620⟩, A85, H⟩ := zb H
            try dsimp only at H
            have HC86 := zA H
            clear H
            obtain ⟨hcz87_0, hcz87_1, hfz87_0, hfz87_1⟩ := zB3 BK1561.out
            obtain ⟨Ao88, co88, eo88⟩ := kM HO_19.out
            subst eo88
            go_upto_region 23 with (first | (refine zO (some 150) Tryd.func38 #[.agg #[.int .i64 t1551, .slice Ao11 t1552.length co11], .slice Ao12 t1555.length co12, .slice Ao88 x19_75.length co88] ?_; (with_reducible refine (impl_ResidualAfter.calls kj75 t1551 _ _ t1552 _ _ t1555 _ _ x19_75 t1613 t1616 _ ?side1 ?side2 ?side3 ?side4 ?side5 ?side6 ?side7 A84.out).mono ?_); (case side1 => exact zS (kB HO_1562001.out).2.2); (case side2 => exact (kB HO_1562001.out).2.1); (case side3 => exact zS (kB HO_4.out).2.2); (case side4 => exact (kB HO_4.out).2.1); (case side5 => exact zS (kB HO_19.out).2.2); (case side6 => exact (kB HO_19.out).2.1); (case side7 => exact TabW.below HT.out (zT HB.out GE1561.out)); rintro e w89 ⟨v1614, rfl, ho0, hb⟩; refine ⟨_, rfl, ?_⟩; have HO1615 := zA (kI (kF (kF (kF (kF (kF ho0 (kH (zP HO_4.out))) (kH (zP HO_6.out))) (kH (zP HO_12.out))) (kH (zP HO_19.out))) (kH (zP HO_1562001.out))) (kP (zT HB.out GE1561.out))); replace HO_4 := zA (kE (zP HO_4.out) (kC ho0) hb); replace HO_6 := zA (kE (zP HO_6.out) (kC ho0) hb); replace HO_12 := zA (kE (zP HO_12.out) (kC ho0) hb); replace HO_19 := zA (kE (zP HO_19.out) (kC ho0) hb); replace HO_1562001 := zA (kE (zP HO_1562001.out) (kC ho0) hb); replace BK1561 := zA (zB1 BK1561.out hb); replace HB := zA (kQ (zT HB.out GE1561.out) hb); (try clear hb); (try clear ho0); obtain ⟨hcz90_0, hcz90_1, hfz90_0, hfz90_1⟩ := zB3 BK1561.out) | (refine zO (some 157) Tryd.func38 #[.agg #[.int .i64 t1551, .slice Ao11 t1552.length co11], .slice Ao60 t1575.length co60, .slice Ao88 x19_75.length co88] ?_; (with_reducible refine (impl_ResidualAfter.calls kj75 t1551 _ _ t1552 _ _ t1575 _ _ x19_75 t1617 t1620 _ ?side1 ?side2 ?side3 ?side4 ?side5 ?side6 ?side7 A85.out).mono ?_); (case side1 => exact zS (kB HO_1562001.out).2.2); (case side2 => exact (kB HO_1562001.out).2.1); (case side3 => exact zS (kB HO_12.out).2.2); (case side4 => exact (kB HO_12.out).2.1); (case side5 => exact zS (kB HO_19.out).2.2); (case side6 => exact (kB HO_19.out).2.1); (case side7 => exact TabW.below HT.out (zT HB.out GE1561.out)); rintro e w91 ⟨v1618, rfl, ho0, hb⟩; refine ⟨_, rfl, ?_⟩; have HO1619 := zA (kI (kF (kF (kF (kF (kF (kF ho0 (kH (zP HO_4.out))) (kH (zP HO_6.out))) (kH (zP HO_12.out))) (kH (zP HO_19.out))) (kH (zP HO_1562001.out))) (kH (zP HO1615.out))) (kP (zT HB.out GE1561.out))); replace HO_4 := zA (kE (zP HO_4.out) (kC ho0) hb); replace HO_6 := zA (kE (zP HO_6.out) (kC ho0) hb); replace HO_12 := zA (kE (zP HO_12.out) (kC ho0) hb); replace HO_19 := zA (kE (zP HO_19.out) (kC ho0) hb); replace HO_1562001 := zA (kE (zP HO_1562001.out) (kC ho0) hb); replace HO1615 := zA (kE (zP HO1615.out) (kC ho0) hb); replace BK1561 := zA (zB1 BK1561.out hb); replace HB := zA (kQ (zT HB.out GE1561.out) hb); (try clear hb); (try clear ho0)))
            (try simp only [Act.put, zL, zM, zN])
            go_cut [165] (fun v165 wc => ∃ (kq : Nat) (x165_85 : Bool), v165 = .bool x165_85 ∧ Aside0 (laws_FnTraceResiduals.j4 kq t1562 t1613 t1616 t1617 t1620 x165_85 t1551 t1552 = some r) ∧ Aside0 (kq ≤ kj75) ∧ Aside0 (Kd.R (Kd.int .i64) 2 wc w.heap.size (fun k_ => some k_ ≠ (v1614 : Value).ownBlock ∧ some k_ ≠ (v1618 : Value).ownBlock ∧ some k_ ≠ ((.slice Ao11 t1552.length co11) : Value).ownBlock) (.slice Ao33 t1562.length co33) t1562) ∧ Aside0 (Kd.R (Kd.int .i64) 2 wc w.heap.size (fun k_ => some k_ ≠ ((.slice Ao33 t1562.length co33) : Value).ownBlock ∧ some k_ ≠ (v1618 : Value).ownBlock ∧ some k_ ≠ ((.slice Ao11 t1552.length co11) : Value).ownBlock) v1614 t1613) ∧ Aside0 (Kd.R (Kd.int .i64) 2 wc w.heap.size (fun k_ => some k_ ≠ ((.slice Ao33 t1562.length co33) : Value).ownBlock ∧ some k_ ≠ (v1614 : Value).ownBlock ∧ some k_ ≠ ((.slice Ao11 t1552.length co11) : Value).ownBlock) v1618 t1617) ∧ Aside0 (Kd.R (Kd.int .i64) 2 wc w.heap.size (fun k_ => some k_ ≠ ((.slice Ao33 t1562.length co33) : Value).ownBlock ∧ some k_ ≠ (v1614 : Value).ownBlock ∧ some k_ ≠ (v1618 : Value).ownBlock) (.slice Ao11 t1552.length co11) t1552) ∧ Aside0 (wc.heap[gb1561]? = some (.cells #[.int .i64 t1551, (.slice Ao11 t1552.length co11)] 26 (0, 0))) ∧ Aside0 (Below w.heap.size w wc))
            case first => as_aux_lemma =>
             have H := HC86.out
             clear HC86
             by_cases c92 : t1616 = 0
             ·rw [if_pos c92] at H
              obtain ⟨c92b0, c92b1⟩ := zT1 c92
              clear c92
              (first | rw [c92b0] | (simp only [i64_w, i32_w]; rw [c92b0]) | skip)
              have H' := zA H
              clear H
              go_wp2
              go_meet
              case rel => exact ⟨_, ((t1620 != 0)), zs, H', ⟨by have := HJ6.out; have := HJ26.out; have := HJ55.out; have := HJ75.out; first | omega | exact Nat.le_refl _⟩, ⟨zPM HO_6.out (fun _ hk => ⟨(zOL hk.1.2), ⟨(zOL hk.2), (zOL hk.1.1.2.2.2)⟩⟩)⟩, ⟨zPM HO1615.out (fun _ hk => ⟨(zOL hk.1.1.1.1.2), ⟨(zOL hk.2), (zOL hk.1.2)⟩⟩)⟩, ⟨zPM HO1619.out (fun _ hk => ⟨(zOL hk.1.1.1.1.2), ⟨(zOL hk.2), (zOL hk.1.2)⟩⟩)⟩, ⟨zPM HO_1562001.out (fun _ hk => ⟨(zOL hk.1.1.2.1), ⟨(zOL hk.1.2), (zOL hk.2)⟩⟩)⟩, ⟨zR BK1561.out⟩, ⟨zT HB.out GE1561.out⟩⟩
             rw [if_neg c92] at H
             obtain ⟨c92b0, c92b1⟩ := zT2 c92
             (first | rw [c92b0] | (simp only [i64_w, i32_w]; rw [c92b0]) | skip)
             have H' := zA H
             clear H
             go_wp2
             go_meet
             case rel => exact ⟨_, (true), zs, H', ⟨by have := HJ6.out; have := HJ26.out; have := HJ55.out; have := HJ75.out; first | omega | exact Nat.le_refl _⟩, ⟨zPM HO_6.out (fun _ hk => ⟨(zOL hk.1.2), ⟨(zOL hk.2), (zOL hk.1.1.2.2.2)⟩⟩)⟩, ⟨zPM HO1615.out (fun _ hk => ⟨(zOL hk.1.1.1.1.2), ⟨(zOL hk.2), (zOL hk.1.2)⟩⟩)⟩, ⟨zPM HO1619.out (fun _ hk => ⟨(zOL hk.1.1.1.1.2), ⟨(zOL hk.2), (zOL hk.1.2)⟩⟩)⟩, ⟨zPM HO_1562001.out (fun _ hk => ⟨(zOL hk.1.1.2.1), ⟨(zOL hk.1.2), (zOL hk.2)⟩⟩)⟩, ⟨zR BK1561.out⟩, ⟨zT HB.out GE1561.out⟩⟩
            case rest =>
             clear HC86
             try clear c1
             try clear c2
             try clear c3
             try clear c4
             try clear c5
             try clear c6
             try clear c7
             try clear c8
             try clear c9
             try clear c17
             try clear c21
             try clear c22
             try clear c25
             try clear c37
             try clear c38
             try clear c39
             try clear c40
             try clear c41
             try clear c42
             try clear c43
             try clear c50
             try clear c54
             try clear c55
             try clear c58
             try clear c65
             try clear c67
             try clear c68
             try clear c71
             try clear c74
             try clear c77
             try clear c79
             try clear c80
             try clear c92
             try clear hcz10_0
             try clear hcz10_1
             try clear hcz15_0
             try clear hcz15_1
             try clear hcz28_0
             try clear hcz28_1
             try clear hcz30_0
             try clear hcz30_1
             try clear hcz32_0
             try clear hcz32_1
             try clear hcz35_0
             try clear hcz35_1
             try clear hcz59_0
             try clear hcz59_1
             try clear hcz69_0
             try clear hcz69_1
             try clear hcz72_0
             try clear hcz72_1
             try clear hcz75_0
             try clear hcz75_1
             try clear hcz81_0
             try clear hcz81_1
             try clear hcz87_0
             try clear hcz87_1
             try clear hcz90_0
             try clear hcz90_1
             try clear hfz10_0
             try clear hfz10_1
             try clear hfz15_0
             try clear hfz15_1
             try clear hfz28_0
             try clear hfz28_1
             try clear hfz30_0
             try clear hfz30_1
             try clear hfz32_0
             try clear hfz32_1
             try clear hfz35_0
             try clear hfz35_1
             try clear hfz59_0
             try clear hfz59_1
             try clear hfz69_0
             try clear hfz69_1
             try clear hfz72_0
             try clear hfz72_1
             try clear hfz75_0
             try clear hfz75_1
             try clear hfz81_0
             try clear hfz81_1
             try clear hfz87_0
             try clear hfz87_1
             try clear hfz90_0
             try clear hfz90_1
             obtain ⟨kq, x165_85, rfl, HA, HJ85, HO_6, HO_20, HO_22, HO_1562001, BK1561, HB⟩ := hcut
             cases kq with
             | zero => exact absurd HA.out (by simp [laws_FnTraceResiduals.j4])
             | succ kj85 =>
              have H := HA.out
              clear HA
              simp only [laws_FnTraceResiduals.j4] at H
              by_cases c93 : x165_85 = true
              ·subst c93
               rw [if_pos rfl] at H
               by_cases c94 : t1616 = 0
               ·rw [if_pos c94] at H
                obtain ⟨c94b0, c94b1⟩ := zT1 c94
                clear c94
                by_cases c95 : t1620 = 4
                ·rw [if_pos c95] at H
                 obtain ⟨c95b0, c95b1⟩ := zT1 c95
                 clear c95
                 obtain rfl := Option.some.inj H
                 go_wp2
                 go_ret
                 exact ⟨zr, zT HB.out GE1561.out⟩
                rw [if_neg c95] at H
                obtain ⟨c95b0, c95b1⟩ := zT2 c95
                obtain rfl := Option.some.inj H
                go_wp2
                go_ret
                exact ⟨zr, zT HB.out GE1561.out⟩
               rw [if_neg c94] at H
               obtain ⟨c94b0, c94b1⟩ := zT2 c94
               by_cases c96 : t1620 = 4
               ·rw [if_pos c96] at H
                obtain ⟨c96b0, c96b1⟩ := zT1 c96
                clear c96
                obtain rfl := Option.some.inj H
                go_wp2
                go_ret
                exact ⟨zr, zT HB.out GE1561.out⟩
               rw [if_neg c96] at H
               obtain ⟨c96b0, c96b1⟩ := zT2 c96
               obtain rfl := Option.some.inj H
               go_wp2
               go_ret
               exact ⟨zr, zT HB.out GE1561.out⟩
              replace c93 := Bool.eq_false_iff.mpr c93
              subst c93
              rw [if_neg (show ¬ (false = true) by decide)] at H
              obtain ⟨⟨t1621, t1624⟩, A97, H⟩ := zb H
              try dsimp only at H
              by_cases c98 : t1624 = 0
              ·rw [if_pos c98] at H
               obtain ⟨c98b0, c98b1⟩ := zT1 c98
               clear c98
               obtain ⟨t1625, A99, H⟩ := zb H
               try dsimp only at H
               obtain rfl := Option.some.inj H
               obtain ⟨hcz100_0, hcz100_1, hfz100_0, hfz100_1⟩ := zB3 BK1561.out
               obtain ⟨Ao101, co101, eo101⟩ := kM HO_20.out
               subst eo101
               go_wp2_with (first | (refine zO (some 188) Tryd.func38 #[.agg #[.int .i64 t1551, .slice Ao11 t1552.length co11], .slice Ao33 t1562.length co33, .slice Ao101 t1613.length co101] ?_; (with_reducible refine (impl_ResidualAfter.calls kj85 t1551 _ _ t1552 _ _ t1562 _ _ t1613 t1621 t1624 _ ?side1 ?side2 ?side3 ?side4 ?side5 ?side6 ?side7 A97.out).mono ?_); (case side1 => exact zS (kB HO_1562001.out).2.2); (case side2 => exact (kB HO_1562001.out).2.1); (case side3 => exact zS (kB HO_6.out).2.2); (case side4 => exact (kB HO_6.out).2.1); (case side5 => exact zS (kB HO_20.out).2.2); (case side6 => exact (kB HO_20.out).2.1); (case side7 => exact TabW.below HT.out (zT HB.out GE1561.out)); rintro e w102 ⟨v1622, rfl, ho0, hb⟩; refine ⟨_, rfl, ?_⟩; have HO1623 := zA (kI (kF (kF (kF (kF ho0 (kH (zP HO_6.out))) (kH (zP HO_20.out))) (kH (zP HO_22.out))) (kH (zP HO_1562001.out))) (kP (zT HB.out GE1561.out))); replace HO_6 := zA (kE (zP HO_6.out) (kC ho0) hb); replace HO_20 := zA (kE (zP HO_20.out) (kC ho0) hb); replace HO_22 := zA (kE (zP HO_22.out) (kC ho0) hb); replace HO_1562001 := zA (kE (zP HO_1562001.out) (kC ho0) hb); replace BK1561 := zA (zB1 BK1561.out hb); replace HB := zA (kQ (zT HB.out GE1561.out) hb); (try clear hb); (try clear ho0); obtain ⟨Ao103, co103, eo103⟩ := kM HO1623.out; subst eo103; obtain ⟨Ao104, co104, eo104⟩ := kM HO_22.out; subst eo104) | (go_at_call 20; (with_reducible refine (laws_likeInts.calls kj85 _ _ t1621 _ _ t1617 t1625 _ ?side1 ?side2 ?side3 ?side4 A99.out).mono ?_); (case side1 => exact zS (kB HO1623.out).2.2); (case side2 => exact (kB HO1623.out).2.1); (case side3 => exact zS (kB HO_22.out).2.2); (case side4 => exact (kB HO_22.out).2.1); rintro e w' ⟨rfl, ⟨nd, rfl⟩⟩))
               go_ret
               exact ⟨zr, zT HB.out GE1561.out⟩
              rw [if_neg c98] at H
              exact absurd H (by simp)
       rw [if_neg c55] at H
       exact absurd H (by simp)
      rw [if_neg c54] at H
      exact absurd H (by simp)
   rw [if_neg c22] at H
   obtain ⟨c22b0, c22b1⟩ := zT2 c22
   obtain rfl := Option.some.inj H
   go_wp2
   go_ret
   exact ⟨zr, zT HB.out GE1561.out⟩


end Go.Proofs.YtkiacoilecdepaaDoor.PAll
