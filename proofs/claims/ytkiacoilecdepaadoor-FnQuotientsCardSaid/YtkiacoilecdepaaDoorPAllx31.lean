-- Printed by a program of the session (wip/tools/pgen.py) out of the translation. Not trusted: Lean checks it.
import Derived.Test.YtkiacoilecdepaaDoorPAllx0
import Derived.Test.YtkiacoilecdepaaDoorPAllx1
import Derived.Test.YtkiacoilecdepaaDoorPAllx3
import Derived.Test.YtkiacoilecdepaaDoorPAllx4
import Derived.Test.YtkiacoilecdepaaDoorPAllx6
import Derived.Test.YtkiacoilecdepaaDoorPAllx7
import Derived.Test.YtkiacoilecdepaaDoorPAllx12
namespace Go.Proofs.YtkiacoilecdepaaDoor.PAll
open Go.RowKit Go.Proofs.YtkiacoilecdepaaDoor.T Go.Proofs.YtkiacoilecdepaaDoorW.PrintWords Go.Proofs.YtkiacoilecdepaaDoorW.PrintLast Go.Proofs.YtkiacoilecdepaaDoorW.PrintMore
attribute [local go_sem] max2_int min2_int max_two min_two max_three min_three max_four min_four   -- for this text's walks alone
set_option linter.unusedVariables false
set_option linter.unusedSimpArgs false

/-! ### spec_l05Part: function 70 -/
mutual
def spec_l05Part.j0 : Nat → Int → List Int → List Int → List Int → Int → Int → Int → List Int → Option (Int × List Int × List Int × List Int)
 | 0, _, _, _, _, _, _, _, _ => none
 | k + 1, x2, x13, x15, x753000, x753001, x753002, x761000, x761001 => (spec_l01Next.f x753000 x753001 x753002 3).bind fun bt790 => (if bt790.1 = 0 then (spec_l05Part.j1 k x2 x13 x15 (decide ((x15.length : Int) > 0)) x753000 bt790.2.1 bt790.2.2 x761000 x761001) else (spec_l05Part.j1 k x2 x13 x15 false x753000 bt790.2.1 bt790.2.2 x761000 x761001))
def spec_l05Part.j1 : Nat → Int → List Int → List Int → Bool → List Int → Int → Int → Int → List Int → Option (Int × List Int × List Int × List Int)
 | 0, _, _, _, _, _, _, _, _, _ => none
 | k + 1, x2, x13, x15, x59, x753000, x753001, x753002, x761000, x761001 => if x59 = true then ((spec_l01Next.f x753000 x753001 x753002 (x15.length : Int)).bind fun bt793 => ((spec_l01Next.f x753000 bt793.2.1 bt793.2.2 x761000).bind fun bt796 => (if 0 ≤ bt793.1 then (if bt793.1 < (x15.length : Int) then (spec_l05Part.j2 k x2 x13 (x15.set (bt793.1 : Int).toNat bt796.1) x753000 bt796.2.1 bt796.2.2 x761000 x761001) else (none)) else (none)))) else (spec_l05Part.j2 k x2 x13 x15 x753000 x753001 x753002 x761000 x761001)
def spec_l05Part.j2 : Nat → Int → List Int → List Int → List Int → Int → Int → Int → List Int → Option (Int × List Int × List Int × List Int)
 | 0, _, _, _, _, _, _, _, _ => none
 | k + 1, x2, x13, x15, x753000, x753001, x753002, x761000, x761001 => (spec_l01Next.f x753000 x753001 x753002 12).bind fun bt800 => (if bt800.1 = 0 then ((spec_l03Spoil.f k x753000 bt800.2.1 bt800.2.2 x761000 x761001 x2).bind fun bt803 => (spec_l05Part.j3 k x13 bt803.1 x753000 bt803.2.1 bt803.2.2 x761000 x761001)) else (spec_l05Part.j3 k x13 x15 x753000 bt800.2.1 bt800.2.2 x761000 x761001))
def spec_l05Part.j3 : Nat → List Int → List Int → List Int → Int → Int → Int → List Int → Option (Int × List Int × List Int × List Int)
 | 0, _, _, _, _, _, _, _ => none
 | k + 1, x13, x15, x753000, x753001, x753002, x761000, x761001 => (spec_l03Is.f k x761000 x761001 x15).bind fun t808 => (if t808 = true then ((spec_l03Shuffle.f k x753000 x753001 x753002 x761000 x761001 x15).bind fun bt809 => (some (x761000, x761001, bt809.1, x13))) else (some (x761000, x761001, x15, x13)))
end
def spec_l05Part.f (k : Nat) (l0 : List Int) (a1 : Int) (a2 : Int) (a3 : Bool) : Option (Int × List Int × List Int × List Int) := (spec_l03Pair.f k l0 a1 a2).bind fun bt749 => ((spec_l03Is.f k bt749.2.2.2.1 bt749.2.2.2.2.1 bt749.2.2.2.2.2).bind fun t761 => (if t761 = true then ((spec_l03Shuffle.f k bt749.1 bt749.2.1 bt749.2.2.1 bt749.2.2.2.1 bt749.2.2.2.2.1 bt749.2.2.2.2.2).bind fun bt765 => ((spec_l01Next.f bt749.1 bt765.2.1 bt765.2.2 (wrap64 ((bt765.1.length : Int) + 1))).bind fun bt770 => (if 0 ≤ bt770.1 then (if bt770.1 ≤ (bt765.1.length : Int) then ((spec_l01Own.f (bt765.1.take (bt770.1 : Int).toNat)).bind fun t777 => (if a3 = true then ((spec_l01Next.f bt749.1 bt770.2.1 bt770.2.2 (wrap64 ((bt765.1.length : Int) + 1))).bind fun bt780 => (if 0 ≤ bt780.1 then (if bt780.1 ≤ (bt765.1.length : Int) then ((spec_l01Own.f (bt765.1.drop (bt780.1 : Int).toNat)).bind fun t787 => (spec_l05Part.j0 k a2 bt749.2.2.2.2.2 t787 bt749.1 bt780.2.1 bt780.2.2 bt749.2.2.2.1 bt749.2.2.2.2.1)) else (none)) else (none))) else (spec_l05Part.j0 k a2 bt749.2.2.2.2.2 t777 bt749.1 bt770.2.1 bt770.2.2 bt749.2.2.2.1 bt749.2.2.2.2.1))) else (none)) else (none)))) else (some (bt749.2.2.2.1, bt749.2.2.2.2.1, (([0] : List Int)), bt749.2.2.2.2.2))))

def spec_l05Part.T9 : Bool × List (List Nat × List Nat) := (true, [([], []), ([], []), ([], []), ([2], [2]), ([1, 3], [1, 3]), ([], []), ([], []), ([6], [6]), ([5, 7, 4], [5, 7]), ([0, 4, 0, 1, 2, 3, 4, 5, 6, 7, 8], [0, 4]), ([9, 8, 8, 0, 1, 2, 3, 4, 5, 6, 7, 8], [8, 9])])
def spec_l05Part.B9 : List Nat := [0, 0, 0, 4, 14, 0, 0, 64, 254, 511, 1023]
theorem spec_l05Part.tab9 : rtab .any (opsOf Tryd.f70 9) = spec_l05Part.T9 := by kernel_rfl
theorem spec_l05Part.bits9 : waitsOk spec_l05Part.T9.2 spec_l05Part.B9 = true := by kernel_rfl
set_option maxHeartbeats 8000000 in
set_option maxRecDepth 100000 in
theorem spec_l05Part.calls (k : Nat) (A0 : Option Addr) (c0 : Nat) (l0 : List Int) (a1 : Int) (a2 : Int) (a3 : Bool) (r1 : Int) (r2 : List Int) (r3 : List Int) (r4 : List Int) (w : World) (hr0 : Kd.C (Kd.int .u8) w A0 l0.length l0) (hc0 : l0.length ≤ c0) (h : spec_l05Part.f k l0 a1 a2 a3 = some (r1, r2, r3, r4)) :
  Calls Tryd.prog 70 #[.slice A0 l0.length c0, .int .i64 a1, .int .i64 a2, .bool a3] w fun e w' => ∃ v1_ v2_ v3_ : Value, e = .returned (.tuple #[.agg #[.int .i64 r1, v1_], v2_, v3_]) ∧ Kd.R (Kd.int .i64) 2 w' w.heap.size (fun k_ => some k_ ≠ (v2_ : Value).ownBlock ∧ some k_ ≠ (v3_ : Value).ownBlock) v1_ r2 ∧ Kd.R (Kd.int .i64) 2 w' w.heap.size (fun k_ => some k_ ≠ (v1_ : Value).ownBlock ∧ some k_ ≠ (v3_ : Value).ownBlock) v2_ r3 ∧ Kd.R (Kd.int .i64) 2 w' w.heap.size (fun k_ => some k_ ≠ (v1_ : Value).ownBlock ∧ some k_ ≠ (v2_ : Value).ownBlock) v3_ r4 ∧ Below w.heap.size w w' := by
 have hu26 := Tryd.underlying26
 have HR0 := zA hr0
 have HC0 := zA hc0
 clear hr0 hc0
 have HB := zA (kW w.heap.size w)
 have H := h
 unfold spec_l05Part.f at H
 clear h
 obtain ⟨⟨t749, t750, t751, t753, t754, t757⟩, A5, H⟩ := zb H
 try dsimp only at H
 obtain ⟨t761, A6, H⟩ := zb H
 try dsimp only at H
 by_cases c7 : t761 = true
 ·subst c7
  rw [if_pos rfl] at H
  obtain ⟨⟨t765, t768, t769⟩, A8, H⟩ := zb H
  try dsimp only at H
  obtain ⟨⟨t770, t771, t772⟩, A9, H⟩ := zb H
  try dsimp only at H
  by_cases c10 : 0 ≤ t770
  ·rw [if_pos c10] at H
   have c10b0 := eq_true c10
   have c10b1 : decide (0 ≤ t770) = true := decide_eq_true c10
   clear c10
   by_cases c11 : t770 ≤ (t765.length : Int)
   ·rw [if_pos c11] at H
    have c11b0 := eq_true c11
    have c11b1 : decide (t770 ≤ (t765.length : Int)) = true := decide_eq_true c11
    clear c11
    obtain ⟨y773, hy773⟩ : ∃ y_ : List Int, y_ = (t765.take (t770 : Int).toNat) := ⟨_, rfl⟩
    replace H : ((spec_l01Own.f y773).bind fun t777 => (if a3 = true then ((spec_l01Next.f t749 t771 t772 (wrap64 ((t765.length : Int) + 1))).bind fun bt780 => (if 0 ≤ bt780.1 then (if bt780.1 ≤ (t765.length : Int) then ((spec_l01Own.f (t765.drop (bt780.1 : Int).toNat)).bind fun t787 => (spec_l05Part.j0 k a2 t757 t787 t749 bt780.2.1 bt780.2.2 t753 t754)) else (none)) else (none))) else (spec_l05Part.j0 k a2 t757 t777 t749 t771 t772 t753 t754))) = some (r1, r2, r3, r4) := zy hy773 H
    have Ny773 := zA hy773
    clear hy773
    obtain ⟨t777, A12, H⟩ := zb H
    try dsimp only at H
    have HC13 := zA H
    clear H
    go_enter Tryd.func70, Tryd.ntmps70
    go_upto_if 43 with (first | (refine zBE 8 #[.int .i64 0, .slice none 0 0] 26 ?_; intro gb748 hg w14 hbox hb; have BK748 := zA (hbox); have GW748 := zA (zBH hg HB.out); have GE748 := zA (zBH hg HB.out); replace HB := zA (kQ (zQ HB.out) hb); clear hb hbox hg) | (refine zO (some 20) Tryd.func48 #[.slice A0 l0.length c0, .int .i64 a1, .int .i64 a2] ?_; (with_reducible refine (spec_l03Pair.calls k _ _ l0 a1 a2 t749 t750 t751 t753 t754 t757 w _ ?side1 ?side2 ?side3 A5.out).mono ?_); (case side1 => exact zT HB.out GE748.out); (case side2 => exact HR0.out); (case side3 => exact HC0.out); rintro e w15 ⟨v755, v758, g752, rfl, ho0, ho1, hi, hb, hb2, hgw⟩; refine ⟨_, rfl, ?_⟩; have HO756 := zA (kI ho0 (kP (zT HB.out GE748.out))); have HO759 := zA (kI ho1 (kP (zT HB.out GE748.out))); replace HB := zA (hb); have HI752 := zA (hi); have NB752_748 := zA (Z101.ne_blk hi (blk_below (g := gb748) (o := .cells #[.int .i64 0, .slice none 0 0] 26 (0, 0)) (zR BK748.out) hb2) (by decide)); have NB748_752 := zA (Ne.symm (Z101.ne_blk hi (blk_below (g := gb748) (o := .cells #[.int .i64 0, .slice none 0 0] 26 (0, 0)) (zR BK748.out) hb2) (by decide))); replace BK748 := zA (zB1 BK748.out hb2); (try clear hb); (try clear hb2); (try clear hi); (try clear hgw); (try clear ho0); (try clear ho1)) | (refine zBE 12 #[.int .i64 0, .slice none 0 0] 26 ?_; intro gb760 hg w16 hbox hb; replace HO756 := zA (kL (zP HO756.out) hb); replace HO759 := zA (kL (zP HO759.out) hb); have BK760 := zA (hbox); have GW760 := zA (zB6 hg (kP (zV HB.out (Z101.ge HI752.out) GE748.out)) : w.heap.size ≤ gb760); have GE760 := zA (zB6 hg (kP (zV HB.out (Z101.ge HI752.out) GE748.out)) : w.heap.size ≤ gb760); replace HB := zA (kQ (zV HB.out (Z101.ge HI752.out) GE748.out) hb); have NB748_760 := zA (zB4 hg BK748.out : gb748 ≠ gb760); have NB760_748 := zA (zB5 hg BK748.out : gb760 ≠ gb748); replace BK748 := zA (zB1 BK748.out hb); have NB752_760 := zA (zB7 hg (Z101.lt (show Z101 w _ g752 t749 t750 t751 from Z101.uB HI752.out NB752_748.out)) : g752 ≠ gb760); have NB760_752 := zA (zB8 hg (Z101.lt (show Z101 w _ g752 t749 t750 t751 from Z101.uB HI752.out NB752_748.out)) : gb760 ≠ g752); replace HI752 := zA (Z101.below (Z101.uB HI752.out NB752_748.out) hb); clear hb hbox hg; have hnb17 := NB760_748.out; have hnc17 := NB748_760.out; have hnb18 := NB760_752.out; have hnc18 := NB752_760.out; obtain ⟨hcz19_0, hcz19_1, hfz19_0, hfz19_1⟩ := zB3 BK760.out; obtain ⟨Ao20, co20, eo20⟩ := kM HO756.out; subst eo20; obtain ⟨Ao21, co21, eo21⟩ := kM HO759.out; subst eo21) | (refine zO (some 26) Tryd.func77 #[.agg #[.int .i64 t753, .slice Ao20 t754.length co20], .slice Ao21 t757.length co21] ?_; (with_reducible refine (spec_l03Is.calls k t753 _ _ t754 _ _ t757 true _ ?side1 ?side2 ?side3 ?side4 A6.out).mono ?_); (case side1 => refine (kB (e := 2) (base := w.heap.size) (ok := fun k_ => some k_ ≠ (.slice Ao21 t757.length co21 : Value).ownBlock) (n := t754.length) (c := co20) ?_).2.2; exact (zP (zFG HO756.out BK760.out (.int .i64 t753) (.slice Ao20 t754.length co20)))); (case side2 => exact (kB HO756.out).2.1); (case side3 => refine (kB (e := 2) (base := w.heap.size) (ok := fun k_ => some k_ ≠ (.slice Ao20 t754.length co20 : Value).ownBlock) (n := t757.length) (c := co21) ?_).2.2; exact (zP (zFG HO759.out BK760.out (.int .i64 t753) (.slice Ao20 t754.length co20)))); (case side4 => exact (kB HO759.out).2.1); rintro e w22 ⟨rfl, hb⟩; refine ⟨_, rfl, ?_⟩; replace HO756 := zA (kL (zP (zFG HO756.out BK760.out (.int .i64 t753) (.slice Ao20 t754.length co20))) hb); replace HO759 := zA (kL (zP (zFG HO759.out BK760.out (.int .i64 t753) (.slice Ao20 t754.length co20))) hb); replace BK748 := zA (blk_below (g := gb748) (o := .cells #[.int .i64 0, .slice none 0 0] 26 (0, 0)) (zBG BK748.out NB748_760.out NB748_760.out) hb); replace BK760 := zA (blk_below (g := gb760) (o := .cells #[.int .i64 t753, .slice Ao20 t754.length co20] 26 (0, 0)) (zRP BK760.out) hb); replace HB := zA (kQ (zW HB.out (Z101.ge HI752.out) GE748.out GE760.out) hb); replace HI752 := zA (Z101.below (show Z101 w ((w16.setCell ⟨gb760, 0, none⟩ (.int .i64 t753)).setCell ⟨gb760, 1, none⟩ (.slice Ao20 t754.length co20)) g752 t749 t750 t751 from Z101.uC HI752.out NB752_748.out NB752_760.out) hb); (try clear hb); obtain ⟨hcz23_0, hcz23_1, hfz23_0, hfz23_1⟩ := zB3 BK760.out) | (refine zO (some 34) Tryd.func115 #[.pointer (some ⟨g752, 0, none⟩), .agg #[.int .i64 t753, .slice Ao20 t754.length co20], .slice Ao21 t757.length co21] ?_; (with_reducible refine (spec_l03Shuffle.calls k g752 t749 t750 t751 t753 _ _ t754 _ _ t757 t765 t768 t769 w _ ?side1 ?side2 ?side3 ?side4 ?side5 ?side6 ?side7 ?side8 A8.out).mono ?_); (case side1 => exact Z101.uC HI752.out NB752_748.out NB752_760.out); (case side2 => exact zW HB.out (Z101.ge HI752.out) GE748.out GE760.out); (case side3 => exact zS (kB HO756.out).2.2); (case side4 => exact (kB HO756.out).2.1); (case side5 => exact jJ (Z101.own_ne HI752.out HO756.out (by decide))); (case side6 => exact zS (kB HO759.out).2.2); (case side7 => exact (kB HO759.out).2.1); (case side8 => exact jJ (Z101.own_ne HI752.out HO759.out (by decide))); rintro e w24 ⟨v766, rfl, ho0, hi, hb, hk⟩; refine ⟨_, rfl, ?_⟩; replace BK748 := zA (zB2 hk BK748.out NB748_752.out); replace BK760 := zA (zB2 hk BK760.out NB760_752.out); have HO767 := zA (kI (kF (kF ho0 (kH (zP HO756.out))) (kH (zP HO759.out))) (kP (zW HB.out (Z101.ge HI752.out) GE748.out GE760.out))); replace HO756 := zA (kA (Kd.R_told (Kd.R_oldK (Z101.apart (show Z101 w _ g752 t749 t750 t751 from Z101.uC HI752.out NB752_748.out NB752_760.out) (zP HO756.out) (by decide)) hk) (kC ho0)) (fun _ h_ => h_.1)); replace HO759 := zA (kA (Kd.R_told (Kd.R_oldK (Z101.apart (show Z101 w _ g752 t749 t750 t751 from Z101.uC HI752.out NB752_748.out NB752_760.out) (zP HO759.out) (by decide)) hk) (kC ho0)) (fun _ h_ => h_.1)); replace HB := zA (hb); replace HI752 := zA (hi); (try clear hb); (try clear hk); (try clear hi); (try clear ho0); obtain ⟨Ao25, co25, eo25⟩ := kM HO767.out; subst eo25) | (refine zO (some 40) Tryd.func79 #[.pointer (some ⟨g752, 0, none⟩), .int .i64 (wrap64 ((t765.length : Int) + 1))] ?_; (with_reducible refine (spec_l01Next.calls g752 t749 t768 t769 (wrap64 ((t765.length : Int) + 1)) t770 t771 t772 w _ ?side1 ?side2 A9.out).mono ?_); (case side1 => exact Z101.uC HI752.out NB752_748.out NB752_760.out); (case side2 => exact zW HB.out (Z101.ge HI752.out) GE748.out GE760.out); rintro e w26 ⟨rfl, hi, hb, hk⟩; refine ⟨_, rfl, ?_⟩; replace BK748 := zA (zB2 hk BK748.out NB748_752.out); replace HO756 := zA (zB9 (Z101.apart (show Z101 w _ g752 t749 t768 t769 from Z101.uC HI752.out NB752_748.out NB752_760.out) (zP HO756.out) (by decide)) hk); replace HO759 := zA (zB9 (Z101.apart (show Z101 w _ g752 t749 t768 t769 from Z101.uC HI752.out NB752_748.out NB752_760.out) (zP HO759.out) (by decide)) hk); replace BK760 := zA (zB2 hk BK760.out NB760_752.out); replace HO767 := zA (zB9 (Z101.apart (show Z101 w _ g752 t749 t768 t769 from Z101.uC HI752.out NB752_748.out NB752_760.out) (zP HO767.out) (by decide)) hk); replace HB := zA (hb); replace HI752 := zA (hi); (try clear hb); (try clear hk); (try clear hi); have q27 : (t770 : Int) ≤ ((t765.length : Int) : Int) := zd; obtain ⟨i027, hi027, _, hsz27, _⟩ := info_parts info2; have hroom27 : t765.length ≤ co25 := (kB HO767.out).2.1; have hC27 : Kd.C (Kd.int .i64) _ Ao25 t765.length t765 := (kB HO767.out).2.2; have hcut27 := cut_to (P := Tryd.prog) 24 2 .i64 Tryd.underlying24 hi027 Ao25 t765.length co25 t770 (zd) q27 hroom27; have hr27 := Kd.C_take (m := (t770 : Int).toNat) hC27 (by omega); have hy27 : y773.length = (t770 : Int).toNat := (by rw [Ny773.out, List.length_take]; omega); rw [← Ny773.out] at hr27; rw [← hy27] at hcut27; have HR776 := zA hr27; have HC776 := zA (show y773.length ≤ co25 from by omega); clear hr27 hC27 hroom27 hi027 hsz27; have KY27 := zA hy27; clear hy27; have KL27 := zA (show (t770 : Int).toNat ≤ t765.length from by omega); replace q27 := eq_true q27) | (refine zO (some 42) Tryd.func76 #[.slice Ao25 y773.length co25] ?_; (with_reducible refine (spec_l01Own.calls _ _ y773 t777 _ ?side1 ?side2 A12.out).mono ?_); (case side1 => repeat (first | exact (by repeat (first | (with_reducible exact HR776.out) | (with_reducible refine Kd.C_alloc ?_ _) | (with_reducible refine Kd.C_drewN ?_ _) | (with_reducible refine Kd.C_drew ?_) | exact HR776.out)) | (with_reducible refine Kd.C_alloc ?_ _) | (with_reducible refine Kd.C_drewN ?_ _) | (with_reducible refine Kd.C_drew ?_))); (case side2 => exact HC776.out); rintro e w28 ⟨v778, rfl, ho0, hb⟩; refine ⟨_, rfl, ?_⟩; have HO779 := zA (kI (kF (kF (kF ho0 (kH (zP HO756.out))) (kH (zP HO759.out))) (kH (zP HO767.out))) (kP (zW HB.out (Z101.ge HI752.out) GE748.out GE760.out))); replace HO756 := zA (kE (zP HO756.out) (kC ho0) hb); replace HO759 := zA (kE (zP HO759.out) (kC ho0) hb); replace HO767 := zA (kE (zP HO767.out) (kC ho0) hb); replace BK748 := zA (zB1 BK748.out hb); replace BK760 := zA (zB1 BK760.out hb); replace HR776 := zA (kO (by repeat (first | (with_reducible exact HR776.out) | (with_reducible refine Kd.C_alloc ?_ _) | (with_reducible refine Kd.C_drewN ?_ _) | (with_reducible refine Kd.C_drew ?_) | exact HR776.out)) hb); replace HB := zA (kQ (zW HB.out (Z101.ge HI752.out) GE748.out GE760.out) hb); replace HI752 := zA (Z101.below (Z101.uC HI752.out NB752_748.out NB752_760.out) hb); (try clear hb); (try clear ho0)))
    (try simp only [Act.put, zL, zM, zN])
    go_cut [15] (fun v15 wc => ∃ (kq : Nat) (x15_12 : List Int) (x753001_12 : Int) (x753002_12 : Int), Aside0 (spec_l05Part.j0 kq a2 t757 x15_12 t749 x753001_12 x753002_12 t753 t754 = some (r1, r2, r3, r4)) ∧ Aside0 (kq ≤ k) ∧ Aside0 (Kd.R (Kd.int .i64) 2 wc w.heap.size (fun k_ => some k_ ≠ (v15 : Value).ownBlock ∧ some k_ ≠ ((.slice Ao20 t754.length co20) : Value).ownBlock) (.slice Ao21 t757.length co21) t757) ∧ Aside0 (Kd.R (Kd.int .i64) 2 wc w.heap.size (fun k_ => some k_ ≠ ((.slice Ao21 t757.length co21) : Value).ownBlock ∧ some k_ ≠ ((.slice Ao20 t754.length co20) : Value).ownBlock) v15 x15_12) ∧ Aside0 (Kd.R (Kd.int .i64) 2 wc w.heap.size (fun k_ => some k_ ≠ ((.slice Ao21 t757.length co21) : Value).ownBlock ∧ some k_ ≠ (v15 : Value).ownBlock) (.slice Ao20 t754.length co20) t754) ∧ Aside0 (wc.heap[gb748]? = some (.cells #[.int .i64 0, (.slice none 0 0)] 26 (0, 0))) ∧ Aside0 (wc.heap[gb760]? = some (.cells #[.int .i64 t753, (.slice Ao20 t754.length co20)] 26 (0, 0))) ∧ Aside0 (Z101 w wc g752 t749 x753001_12 x753002_12) ∧ Aside0 (Below w.heap.size w wc))
    case first =>
     have H := HC13.out
     clear HC13
     by_cases c29 : a3 = true
     ·subst c29
      rw [if_pos rfl] at H
      obtain ⟨⟨t780, t781, t782⟩, A30, H⟩ := zb H
      try dsimp only at H
      by_cases c31 : 0 ≤ t780
      ·rw [if_pos c31] at H
       have c31b0 := eq_true c31
       have c31b1 : decide (0 ≤ t780) = true := decide_eq_true c31
       clear c31
       by_cases c32 : t780 ≤ (t765.length : Int)
       ·rw [if_pos c32] at H
        have c32b0 := eq_true c32
        have c32b1 : decide (t780 ≤ (t765.length : Int)) = true := decide_eq_true c32
        clear c32
        obtain ⟨y783, hy783⟩ : ∃ y_ : List Int, y_ = (t765.drop (t780 : Int).toNat) := ⟨_, rfl⟩
        replace H : ((spec_l01Own.f y783).bind fun t787 => (spec_l05Part.j0 k a2 t757 t787 t749 t781 t782 t753 t754)) = some (r1, r2, r3, r4) := zy hy783 H
        have Ny783 := zA hy783
        clear hy783
        obtain ⟨t787, A33, H⟩ := zb H
        try dsimp only at H
        have H' := zA H
        clear H
        go_wp2_with (first | (refine zO (some 49) Tryd.func79 #[.pointer (some ⟨g752, 0, none⟩), .int .i64 (wrap64 ((t765.length : Int) + 1))] ?_; (with_reducible refine (spec_l01Next.calls g752 t749 t771 t772 (wrap64 ((t765.length : Int) + 1)) t780 t781 t782 w _ ?side1 ?side2 A30.out).mono ?_); (case side1 => exact Z101.uC HI752.out NB752_748.out NB752_760.out); (case side2 => exact zW HB.out (Z101.ge HI752.out) GE748.out GE760.out); rintro e w34 ⟨rfl, hi, hb, hk⟩; refine ⟨_, rfl, ?_⟩; replace BK748 := zA (zB2 hk BK748.out NB748_752.out); replace HO756 := zA (zB9 (Z101.apart (show Z101 w _ g752 t749 t771 t772 from Z101.uC HI752.out NB752_748.out NB752_760.out) (zP HO756.out) (by decide)) hk); replace HO759 := zA (zB9 (Z101.apart (show Z101 w _ g752 t749 t771 t772 from Z101.uC HI752.out NB752_748.out NB752_760.out) (zP HO759.out) (by decide)) hk); replace BK760 := zA (zB2 hk BK760.out NB760_752.out); replace HO767 := zA (zB9 (Z101.apart (show Z101 w _ g752 t749 t771 t772 from Z101.uC HI752.out NB752_748.out NB752_760.out) (zP HO767.out) (by decide)) hk); replace HO779 := zA (zB9 (Z101.apart (show Z101 w _ g752 t749 t771 t772 from Z101.uC HI752.out NB752_748.out NB752_760.out) (zP HO779.out) (by decide)) hk); replace HB := zA (hb); replace HI752 := zA (hi); (try clear hb); (try clear hk); (try clear hi); have q35 : (t780 : Int) ≤ ((t765.length : Int) : Int) := zd; obtain ⟨i035, hi035, _, hsz35, _⟩ := info_parts info2; have hroom35 : t765.length ≤ co25 := (kB HO767.out).2.1; have hC35 : Kd.C (Kd.int .i64) _ Ao25 t765.length t765 := (kB HO767.out).2.2; have q035 : (0 : Int) ≤ (t780 : Int) := zd; have hcut35 := cut_from (P := Tryd.prog) 24 2 .i64 Tryd.underlying24 hi035 1 hsz35 Ao25 t765.length co25 t780 q035 q35; have hr35 := Kd.C_drop (m := (t780 : Int).toNat) (c := co25) hC35 (by omega) hroom35; obtain ⟨A35, hA35⟩ : ∃ A1, A1 = (if co25 = (t780 : Int).toNat then Ao25 else (Ao25 : Option Addr).map (·.add ((t780 : Int).toNat * 1))) := ⟨_, rfl⟩; obtain ⟨c35, hc35⟩ : ∃ c1, c1 = co25 - (t780 : Int).toNat := ⟨_, rfl⟩; have hy35 : y783.length = t765.length - (t780 : Int).toNat := (by rw [Ny783.out, List.length_drop] <;> omega); rw [show (t765).drop (t780 : Int).toNat = y783 from Ny783.out.symm] at hr35; replace hr35 : Kd.C (Kd.int .i64) _ A35 y783.length y783 := (by rw [hA35]; exact hr35); rw [← hy35, ← hA35, ← hc35] at hcut35; have HR786 := zA hr35; have HC786 := zA (show y783.length ≤ c35 from by rw [hy35, hc35]; exact Nat.sub_le_sub_right hroom35 _); clear hr35 hC35 hroom35 hi035 hsz35 hc35; have KY35 := zA hy35; have KA35 := zA hA35; clear hy35 hA35; have KL35 := zA (show (t780 : Int).toNat ≤ t765.length from by omega); replace q35 := eq_true q35) | (refine zO (some 51) Tryd.func76 #[.slice A35 y783.length c35] ?_; (with_reducible refine (spec_l01Own.calls _ _ y783 t787 _ ?side1 ?side2 A33.out).mono ?_); (case side1 => repeat (first | exact (by repeat (first | (with_reducible exact HR786.out) | (with_reducible refine Kd.C_alloc ?_ _) | (with_reducible refine Kd.C_drewN ?_ _) | (with_reducible refine Kd.C_drew ?_) | exact HR786.out)) | (with_reducible refine Kd.C_alloc ?_ _) | (with_reducible refine Kd.C_drewN ?_ _) | (with_reducible refine Kd.C_drew ?_))); (case side2 => exact HC786.out); rintro e w36 ⟨v788, rfl, ho0, hb⟩; refine ⟨_, rfl, ?_⟩; have HO789 := zA (kI (kF (kF (kF (kF ho0 (kH (zP HO756.out))) (kH (zP HO759.out))) (kH (zP HO767.out))) (kH (zP HO779.out))) (kP (zW HB.out (Z101.ge HI752.out) GE748.out GE760.out))); replace HO756 := zA (kE (zP HO756.out) (kC ho0) hb); replace HO759 := zA (kE (zP HO759.out) (kC ho0) hb); replace HO767 := zA (kE (zP HO767.out) (kC ho0) hb); replace HO779 := zA (kE (zP HO779.out) (kC ho0) hb); replace BK748 := zA (zB1 BK748.out hb); replace BK760 := zA (zB1 BK760.out hb); replace HR786 := zA (kO (by repeat (first | (with_reducible exact HR786.out) | (with_reducible refine Kd.C_alloc ?_ _) | (with_reducible refine Kd.C_drewN ?_ _) | (with_reducible refine Kd.C_drew ?_) | exact HR786.out)) hb); replace HB := zA (kQ (zW HB.out (Z101.ge HI752.out) GE748.out GE760.out) hb); replace HI752 := zA (Z101.below (Z101.uC HI752.out NB752_748.out NB752_760.out) hb); (try clear hb); (try clear ho0)))
        go_meet
        case rel => exact ⟨_, (t787), (t781), (t782), H', ⟨by first | omega | exact Nat.le_refl _⟩, ⟨zPM HO759.out (fun _ hk => ⟨hk.2, hk.1.1.1⟩)⟩, ⟨zPM HO789.out (fun _ hk => ⟨hk.1.1.2, hk.1.1.1.2⟩)⟩, ⟨zPM HO756.out (fun _ hk => ⟨hk.1.1.1, hk.2⟩)⟩, ⟨zR BK748.out⟩, ⟨zR BK760.out⟩, ⟨Z101.uC HI752.out NB752_748.out NB752_760.out⟩, ⟨zW HB.out (Z101.ge HI752.out) GE748.out GE760.out⟩⟩
       rw [if_neg c32] at H
       exact absurd H (by simp)
      rw [if_neg c31] at H
      exact absurd H (by simp)
     replace c29 := Bool.eq_false_iff.mpr c29
     subst c29
     rw [if_neg (show ¬ (false = true) by decide)] at H
     have H' := zA H
     clear H
     go_wp2
     go_meet
     case rel => exact ⟨_, (t777), (t771), (t772), H', ⟨by first | omega | exact Nat.le_refl _⟩, ⟨zPM HO759.out (fun _ hk => ⟨hk.2, hk.1.1⟩)⟩, ⟨zPM HO779.out (fun _ hk => ⟨hk.1.2, hk.1.1.2⟩)⟩, ⟨zPM HO756.out (fun _ hk => ⟨hk.1.1, hk.2⟩)⟩, ⟨zR BK748.out⟩, ⟨zR BK760.out⟩, ⟨Z101.uC HI752.out NB752_748.out NB752_760.out⟩, ⟨zW HB.out (Z101.ge HI752.out) GE748.out GE760.out⟩⟩
    case rest =>
     clear HC13
     try clear c1
     try clear c2
     try clear c3
     try clear c4
     try clear c7
     try clear c10
     try clear c11
     try clear c17
     try clear c18
     try clear c29
     try clear c31
     try clear c32
     try clear c35
     try clear hcz19_0
     try clear hcz19_1
     try clear hcz23_0
     try clear hcz23_1
     try clear hfz19_0
     try clear hfz19_1
     try clear hfz23_0
     try clear hfz23_1
     obtain ⟨kq, x15_12, x753001_12, x753002_12, HA, HJ12, HO_13, HO_15, HO_761001, BK748, BK760, HI752, HB⟩ := hcut
     cases kq with
     | zero => exact absurd HA.out (by simp [spec_l05Part.j0])
     | succ kj12 =>
      have H := HA.out
      clear HA
      simp only [spec_l05Part.j0] at H
      have HC37 := zA H
      clear H
      go_upto_region 8 with (fail)
      go_cut [59] (fun v59 wc => ∃ (kq : Nat) (x59_36 : Bool) (x753001_36 : Int) (x753002_36 : Int), v59 = .bool x59_36 ∧ Aside0 (spec_l05Part.j1 kq a2 t757 x15_12 x59_36 t749 x753001_36 x753002_36 t753 t754 = some (r1, r2, r3, r4)) ∧ Aside0 (kq ≤ kj12) ∧ Aside0 (Kd.R (Kd.int .i64) 2 wc w.heap.size (fun k_ => some k_ ≠ (u15 : Value).ownBlock ∧ some k_ ≠ ((.slice Ao20 t754.length co20) : Value).ownBlock) (.slice Ao21 t757.length co21) t757) ∧ Aside0 (Kd.R (Kd.int .i64) 2 wc w.heap.size (fun k_ => some k_ ≠ ((.slice Ao21 t757.length co21) : Value).ownBlock ∧ some k_ ≠ ((.slice Ao20 t754.length co20) : Value).ownBlock) u15 x15_12) ∧ Aside0 (Kd.R (Kd.int .i64) 2 wc w.heap.size (fun k_ => some k_ ≠ ((.slice Ao21 t757.length co21) : Value).ownBlock ∧ some k_ ≠ (u15 : Value).ownBlock) (.slice Ao20 t754.length co20) t754) ∧ Aside0 (wc.heap[gb748]? = some (.cells #[.int .i64 0, (.slice none 0 0)] 26 (0, 0))) ∧ Aside0 (wc.heap[gb760]? = some (.cells #[.int .i64 t753, (.slice Ao20 t754.length co20)] 26 (0, 0))) ∧ Aside0 (Z101 w wc g752 t749 x753001_36 x753002_36) ∧ Aside0 (Below w.heap.size w wc))
      case first =>
       have H := HC37.out
       clear HC37
       obtain ⟨⟨t790, t791, t792⟩, A38, H⟩ := zb H
       try dsimp only at H
       by_cases c39 : t790 = 0
       ·rw [if_pos c39] at H
        obtain ⟨c39b0, c39b1⟩ := zT1 c39
        clear c39
        (first | rw [c39b0] | (simp only [i64_w, i32_w]; rw [c39b0]) | skip)
        have H' := zA H
        clear H
        go_wp2_with (first | (refine zO (some 53) Tryd.func79 #[.pointer (some ⟨g752, 0, none⟩), .int .i64 3] ?_; (with_reducible refine (spec_l01Next.calls g752 t749 x753001_12 x753002_12 3 t790 t791 t792 w _ ?side1 ?side2 A38.out).mono ?_); (case side1 => exact Z101.uC HI752.out NB752_748.out NB752_760.out); (case side2 => exact zW HB.out (Z101.ge HI752.out) GE748.out GE760.out); rintro e w40 ⟨rfl, hi, hb, hk⟩; refine ⟨_, rfl, ?_⟩; replace HO_13 := zA (zB9 (Z101.apart (show Z101 w _ g752 t749 x753001_12 x753002_12 from Z101.uC HI752.out NB752_748.out NB752_760.out) (zP HO_13.out) (by decide)) hk); replace HO_15 := zA (zB9 (Z101.apart (show Z101 w _ g752 t749 x753001_12 x753002_12 from Z101.uC HI752.out NB752_748.out NB752_760.out) (zP HO_15.out) (by decide)) hk); replace HO_761001 := zA (zB9 (Z101.apart (show Z101 w _ g752 t749 x753001_12 x753002_12 from Z101.uC HI752.out NB752_748.out NB752_760.out) (zP HO_761001.out) (by decide)) hk); replace BK748 := zA (zB2 hk BK748.out NB748_752.out); replace BK760 := zA (zB2 hk BK760.out NB760_752.out); replace HB := zA (hb); replace HI752 := zA (hi); (try clear hb); (try clear hk); (try clear hi); obtain ⟨Ao41, co41, eo41⟩ := kM HO_15.out; subst eo41))
        go_meet
        case rel => exact ⟨_, (decide ((x15_12.length : Int) > 0)), (t791), (t792), zs, H', ⟨by have := HJ12.out; first | omega | exact Nat.le_refl _⟩, ⟨zP HO_13.out⟩, ⟨zP HO_15.out⟩, ⟨zP HO_761001.out⟩, ⟨zR BK748.out⟩, ⟨zR BK760.out⟩, ⟨Z101.uC HI752.out NB752_748.out NB752_760.out⟩, ⟨zW HB.out (Z101.ge HI752.out) GE748.out GE760.out⟩⟩
       rw [if_neg c39] at H
       obtain ⟨c39b0, c39b1⟩ := zT2 c39
       (first | rw [c39b0] | (simp only [i64_w, i32_w]; rw [c39b0]) | skip)
       have H' := zA H
       clear H
       go_wp2_with (first | (refine zO (some 53) Tryd.func79 #[.pointer (some ⟨g752, 0, none⟩), .int .i64 3] ?_; (with_reducible refine (spec_l01Next.calls g752 t749 x753001_12 x753002_12 3 t790 t791 t792 w _ ?side1 ?side2 A38.out).mono ?_); (case side1 => exact Z101.uC HI752.out NB752_748.out NB752_760.out); (case side2 => exact zW HB.out (Z101.ge HI752.out) GE748.out GE760.out); rintro e w42 ⟨rfl, hi, hb, hk⟩; refine ⟨_, rfl, ?_⟩; replace HO_13 := zA (zB9 (Z101.apart (show Z101 w _ g752 t749 x753001_12 x753002_12 from Z101.uC HI752.out NB752_748.out NB752_760.out) (zP HO_13.out) (by decide)) hk); replace HO_15 := zA (zB9 (Z101.apart (show Z101 w _ g752 t749 x753001_12 x753002_12 from Z101.uC HI752.out NB752_748.out NB752_760.out) (zP HO_15.out) (by decide)) hk); replace HO_761001 := zA (zB9 (Z101.apart (show Z101 w _ g752 t749 x753001_12 x753002_12 from Z101.uC HI752.out NB752_748.out NB752_760.out) (zP HO_761001.out) (by decide)) hk); replace BK748 := zA (zB2 hk BK748.out NB748_752.out); replace BK760 := zA (zB2 hk BK760.out NB760_752.out); replace HB := zA (hb); replace HI752 := zA (hi); (try clear hb); (try clear hk); (try clear hi)))
       go_meet
       case rel => exact ⟨_, (false), (t791), (t792), zs, H', ⟨by have := HJ12.out; first | omega | exact Nat.le_refl _⟩, ⟨zP HO_13.out⟩, ⟨zP HO_15.out⟩, ⟨zP HO_761001.out⟩, ⟨zR BK748.out⟩, ⟨zR BK760.out⟩, ⟨Z101.uC HI752.out NB752_748.out NB752_760.out⟩, ⟨zW HB.out (Z101.ge HI752.out) GE748.out GE760.out⟩⟩
      case rest =>
       clear HC37
       try clear c1
       try clear c2
       try clear c3
       try clear c4
       try clear c7
       try clear c10
       try clear c11
       try clear c17
       try clear c18
       try clear c29
       try clear c31
       try clear c32
       try clear c35
       try clear c39
       try clear hcz19_0
       try clear hcz19_1
       try clear hcz23_0
       try clear hcz23_1
       try clear hfz19_0
       try clear hfz19_1
       try clear hfz23_0
       try clear hfz23_1
       obtain ⟨kq, x59_36, x753001_36, x753002_36, rfl, HA, HJ36, HO_13, HO_15, HO_761001, BK748, BK760, HI752, HB⟩ := hcut
       cases kq with
       | zero => exact absurd HA.out (by simp [spec_l05Part.j1])
       | succ kj36 =>
        have H := HA.out
        clear HA
        simp only [spec_l05Part.j1] at H
        have HC43 := zA H
        clear H
        go_upto_if 59 with (fail)
        go_cut [] (fun wc => ∃ (kq : Nat) (x15_42 : List Int) (x753001_42 : Int) (x753002_42 : Int), Aside0 (spec_l05Part.j2 kq a2 t757 x15_42 t749 x753001_42 x753002_42 t753 t754 = some (r1, r2, r3, r4)) ∧ Aside0 (kq ≤ kj36) ∧ Aside0 (Kd.R (Kd.int .i64) 2 wc w.heap.size (fun k_ => some k_ ≠ (u15 : Value).ownBlock ∧ some k_ ≠ ((.slice Ao20 t754.length co20) : Value).ownBlock) (.slice Ao21 t757.length co21) t757) ∧ Aside0 (Kd.R (Kd.int .i64) 2 wc w.heap.size (fun k_ => some k_ ≠ ((.slice Ao21 t757.length co21) : Value).ownBlock ∧ some k_ ≠ ((.slice Ao20 t754.length co20) : Value).ownBlock) u15 x15_42) ∧ Aside0 (Kd.R (Kd.int .i64) 2 wc w.heap.size (fun k_ => some k_ ≠ ((.slice Ao21 t757.length co21) : Value).ownBlock ∧ some k_ ≠ (u15 : Value).ownBlock) (.slice Ao20 t754.length co20) t754) ∧ Aside0 (wc.heap[gb748]? = some (.cells #[.int .i64 0, (.slice none 0 0)] 26 (0, 0))) ∧ Aside0 (wc.heap[gb760]? = some (.cells #[.int .i64 t753, (.slice Ao20 t754.length co20)] 26 (0, 0))) ∧ Aside0 (Z101 w wc g752 t749 x753001_42 x753002_42) ∧ Aside0 (Below w.heap.size w wc))
        case first =>
         have H := HC43.out
         clear HC43
         by_cases c44 : x59_36 = true
         ·subst c44
          rw [if_pos rfl] at H
          obtain ⟨⟨t793, t794, t795⟩, A45, H⟩ := zb H
          try dsimp only at H
          obtain ⟨⟨t796, t797, t798⟩, A46, H⟩ := zb H
          try dsimp only at H
          by_cases c47 : 0 ≤ t793
          ·rw [if_pos c47] at H
           have c47b0 : decide (0 ≤ t793) = true := decide_eq_true c47
           clear c47
           (first | rw [c47b0] | (simp only [i64_w, i32_w]; rw [c47b0]) | skip)
           by_cases c48 : t793 < (x15_12.length : Int)
           ·rw [if_pos c48] at H
            have c48b0 : decide (t793 < (x15_12.length : Int)) = true := decide_eq_true c48
            clear c48
            obtain ⟨y799, hy799⟩ : ∃ y_ : List Int, y_ = (x15_12.set (t793 : Int).toNat t796) := ⟨_, rfl⟩
            replace H : (spec_l05Part.j2 kj36 a2 t757 y799 t749 t797 t798 t753 t754) = some (r1, r2, r3, r4) := zy hy799 H
            have Ny799 := zA hy799
            clear hy799
            have H' := zA H
            clear H
            try go_wp2
            replace HO_13 := zA (zH HO_13.out)
            replace HO_15 := zA (zH HO_15.out)
            replace HO_761001 := zA (zH HO_761001.out)
            replace BK748 := zA (zK BK748.out)
            replace BK760 := zA (zK BK760.out)
            replace HI752 := zA (Z101.drew HI752.out)
            replace HB := zA (zD HB.out)
            obtain ⟨Ao51, co51, eo51⟩ := kM HO_15.out
            (first | subst eo51 | (injection eo51 with f1_ f2_ f3_; have f4_ := f1_.symm; have f5_ := f3_.symm; clear f1_ f2_ f3_; subst f4_; subst f5_))
            refine start_ (n := 11) (S := fun w' => w'.cell? ⟨gb760, 0, none⟩ = some (.int .i64 t753) ∧ w'.cell? ⟨gb760, 1, none⟩ = some (.slice Ao20 t754.length co20)) (ds := [10]) #[false, false, false, false, false, false, false, false, false, false, false] (by kernel_rfl) rfl rfl ⟨(kV BK760.out 0).trans rfl, (kV BK760.out 1).trans rfl⟩ (fun hHeld => ?_); refine with_tabW spec_l05Part.tab9 spec_l05Part.bits9 (fun HT_ HW_ => ?_)
            generalize wc.drew = w50 at HO_13 HO_15 HO_761001 BK748 BK760 HI752 HB hHeld ⊢
            refine zp 0 (some 60) #[true, false, false, false, false, false, false, false, false, false, false] HT_.out ?_
            refine zp 1 (some 61) #[true, true, false, false, false, false, false, false, false, false, false] HT_.out ?_
            refine zp 2 (some 62) #[true, true, true, false, false, false, false, false, false, false, false] HT_.out ?_
            refine zp 3 (some 63) #[true, true, true, true, false, false, false, false, false, false, false] HT_.out ?_
            refine zp 5 (some 65) #[true, true, true, true, false, true, false, false, false, false, false] HT_.out ?_
            refine zp 6 (some 66) #[true, true, true, true, false, true, true, false, false, false, false] HT_.out ?_
            refine zc 7 (some 67) #[true, true, true, true, false, true, true, true, false, false, false] HT_.out HW_.out hHeld ?_
            refine one_ (i := 4) (N := some 64) #[true, true, true, true, true, true, true, true, false, false, false] rfl rfl (one_of HT_.out (by kernel_rfl)) (by decide) (fun K hK => ?_)
            refine goes_ Tryd.func79 (by kernel_rfl) rfl #[.pointer (some ⟨g752, 0, none⟩), .int .i64 (x15_12.length : Int)] (by rfl) rfl rfl zg ?_
            with_reducible refine (spec_l01Next.calls g752 t749 x753001_36 x753002_36 (x15_12.length : Int) t793 t794 t795 w _ ?side1 ?side2 A45.out).mono ?_
            (case side1 => exact Z101.uC HI752.out NB752_748.out NB752_760.out)
            (case side2 => exact zW HB.out (Z101.ge HI752.out) GE748.out GE760.out)
            rintro e w52 ⟨rfl, hi, hb, hk⟩
            refine ⟨_, rfl, ?_⟩
            replace HO_13 := zA (zB9 (Z101.apart (show Z101 w _ g752 t749 x753001_36 x753002_36 from Z101.uC HI752.out NB752_748.out NB752_760.out) (zP HO_13.out) (by decide)) hk)
            replace HO_15 := zA (zB9 (Z101.apart (show Z101 w _ g752 t749 x753001_36 x753002_36 from Z101.uC HI752.out NB752_748.out NB752_760.out) (zP HO_15.out) (by decide)) hk)
            replace HO_761001 := zA (zB9 (Z101.apart (show Z101 w _ g752 t749 x753001_36 x753002_36 from Z101.uC HI752.out NB752_748.out NB752_760.out) (zP HO_761001.out) (by decide)) hk)
            replace BK748 := zA (zB2 hk BK748.out NB748_752.out)
            replace BK760 := zA (zB2 hk BK760.out NB760_752.out)
            replace HB := zA (hb)
            replace HI752 := zA (hi)
            (try clear hb)
            (try clear hb2)
            (try clear hk)
            (try clear hi)
            (try clear hgw)
            refine hK.out _ _ ⟨(kV BK760.out 0).trans rfl, (kV BK760.out 1).trans rfl⟩ (fun hHeld => ?_)
            clear hK K
            refine norm_ (a' := ?_) ?_ ?_
            rotate_left
            ·show Act.put _ (some 64) _ = _
             simp only [Act.put, zL, zM, zN, i64_w, i32_w]
             rfl
            refine one_ (i := 8) (N := some 68) #[true, true, true, true, true, true, true, true, true, false, false] rfl rfl (one_of HT_.out (by kernel_rfl)) (by decide) (fun K hK => ?_)
            refine goes_ Tryd.func79 (by kernel_rfl) rfl #[.pointer (some ⟨g752, 0, none⟩), .int .i64 t753] (by rfl) rfl rfl zg ?_
            with_reducible refine (spec_l01Next.calls g752 t749 t794 t795 t753 t796 t797 t798 w _ ?side1 ?side2 A46.out).mono ?_
            (case side1 => exact Z101.uC HI752.out NB752_748.out NB752_760.out)
            (case side2 => exact zW HB.out (Z101.ge HI752.out) GE748.out GE760.out)
            rintro e w53 ⟨rfl, hi, hb, hk⟩
            refine ⟨_, rfl, ?_⟩
            replace HO_13 := zA (zB9 (Z101.apart (show Z101 w _ g752 t749 t794 t795 from Z101.uC HI752.out NB752_748.out NB752_760.out) (zP HO_13.out) (by decide)) hk)
            replace HO_15 := zA (zB9 (Z101.apart (show Z101 w _ g752 t749 t794 t795 from Z101.uC HI752.out NB752_748.out NB752_760.out) (zP HO_15.out) (by decide)) hk)
            replace HO_761001 := zA (zB9 (Z101.apart (show Z101 w _ g752 t749 t794 t795 from Z101.uC HI752.out NB752_748.out NB752_760.out) (zP HO_761001.out) (by decide)) hk)
            replace BK748 := zA (zB2 hk BK748.out NB748_752.out)
            replace BK760 := zA (zB2 hk BK760.out NB760_752.out)
            replace HB := zA (hb)
            replace HI752 := zA (hi)
            (try clear hb)
            (try clear hb2)
            (try clear hk)
            (try clear hi)
            (try clear hgw)
            have p49 : 0 ≤ (t793 : Int) := zd
            have q49 : (t793 : Int) < ((x15_12.length : Int) : Int) := zd
            obtain ⟨go49, co49, eo49, gb49, gl49, cl49, HG49⟩ := Kd.R_form HO_15.out (by omega)
            (first | cases eo49 | (injection eo49 with ea_ en_ ec_; (first | subst ea_ | (injection ea_ with ea_; subst ea_)); subst ec_; clear en_))
            have GB49 := zA gb49
            have GG49 := zA HG49
            clear gb49 gl49 HG49
            obtain ⟨hx49_0, hf49_0⟩ := Kd.R_celln 0 HO_15.out (t793 : Int) p49 q49
            replace p49 := eq_true p49
            replace q49 := eq_true q49
            have HN752_go49 := zA (show g752 ≠ go49 from by have h_ := Z101.own_ne HI752.out HO_15.out (by decide); intro e_; exact h_ (by rw [e_]; rfl))
            have HP54 := Kd.R_putn HO_15.out (t793 : Int) t796
            rw [← Ny799.out] at HP54
            have HQ54 := zA HP54
            clear HP54
            refine hK.out _ _ ⟨(kV BK760.out 0).trans rfl, (kV BK760.out 1).trans rfl⟩ (fun hHeld => ?_)
            clear hK K
            refine norm_ (a' := ?_) ?_ ?_
            rotate_left
            ·show Act.put _ (some 68) _ = _
             simp only [Act.put, zL, zM, zN, i64_w, i32_w]
             rfl
            refine zp 9 (some 69) #[true, true, true, true, true, true, true, true, true, true, false] HT_.out ?_
            refine last_ (i := 10) (N := none) #[true, true, true, true, true, true, true, true, true, true, true] rfl rfl (one_of HT_.out (by kernel_rfl)) (by decide) (fun K hK => ?_)
            refine skip_ (w1 := ?_) (by rfl) rfl ?_ ?_
            rotate_left
            ·go_simp
             rfl
            refine hK.out _ _ ?_
            clear hK K
            refine done_ (done_of HT_.out (by kernel_rfl)) ?_
            try go_wp2
            go_meet
            case rel => exact ⟨_, (y799), (t797), (t798), H', ⟨by have := HJ12.out; have := HJ36.out; first | omega | exact Nat.le_refl _⟩, ⟨by (with_reducible repeat (first | apply zF | apply zG | apply zH)); exact kA (kY (p := ⟨go49, (t793 : Int).toNat, none⟩) (kA HO_13.out (fun k_ hk => (⟨hk, fun e_ => hk.1 (by rw [e_]; rfl)⟩ : _ ∧ k_ ≠ go49))) (fun _ hk => hk.2) (.int .i64 t796)) (fun _ hk => ⟨hk.1.1, hk.1.2⟩)⟩, ⟨zP HQ54.out⟩, ⟨by (with_reducible repeat (first | apply zF | apply zG | apply zH)); exact kA (kY (p := ⟨go49, (t793 : Int).toNat, none⟩) (kA HO_761001.out (fun k_ hk => (⟨hk, fun e_ => hk.2 (by rw [e_]; rfl)⟩ : _ ∧ k_ ≠ go49))) (fun _ hk => hk.2) (.int .i64 t796)) (fun _ hk => ⟨hk.1.1, hk.1.2⟩)⟩, ⟨by (with_reducible repeat (first | refine zJ ?_ _ | refine zK ?_ | refine zI ?_ _)); refine blk_far ?_ (by have h_ := Kd.R_ne HO_15.out BK748.out (by decide); intro e_; exact h_ (by rw [e_]; rfl)) _; (with_reducible repeat (first | refine zJ ?_ _ | refine zK ?_ | refine zI ?_ _)); exact BK748.out⟩, ⟨by (with_reducible repeat (first | refine zJ ?_ _ | refine zK ?_ | refine zI ?_ _)); refine blk_far ?_ (by have h_ := Kd.R_ne HO_15.out BK760.out (by decide); intro e_; exact h_ (by rw [e_]; rfl)) _; (with_reducible repeat (first | refine zJ ?_ _ | refine zK ?_ | refine zI ?_ _)); exact BK760.out⟩, ⟨by repeat (first | (with_reducible first | exact HI752.out | apply Z101.alloc | apply Z101.drewN | apply Z101.drew | apply Z101.set_1 | apply Z101.set_2 | refine Z101.far ?_ HN752_go49.out _ | refine Z101.far ?_ NB752_748.out _ | refine Z101.far ?_ NB752_760.out _) | exact HI752.out)⟩, ⟨by repeat (first | (with_reducible first | exact HB.out | apply zB | apply zC | apply zD | refine zE ?_ GB49.out | refine zE ?_ (Z101.ge HI752.out) | refine zE ?_ GE748.out | refine zE ?_ GE760.out) | exact HB.out)⟩⟩
           rw [if_neg c48] at H
           exact absurd H (by simp)
          rw [if_neg c47] at H
          exact absurd H (by simp)
         replace c44 := Bool.eq_false_iff.mpr c44
         subst c44
         rw [if_neg (show ¬ (false = true) by decide)] at H
         have H' := zA H
         clear H
         go_wp2
         go_meet
         case rel => exact ⟨_, (x15_12), (x753001_36), (x753002_36), H', ⟨by have := HJ12.out; have := HJ36.out; first | omega | exact Nat.le_refl _⟩, ⟨zP HO_13.out⟩, ⟨zP HO_15.out⟩, ⟨zP HO_761001.out⟩, ⟨zR BK748.out⟩, ⟨zR BK760.out⟩, ⟨Z101.uC HI752.out NB752_748.out NB752_760.out⟩, ⟨zW HB.out (Z101.ge HI752.out) GE748.out GE760.out⟩⟩
        case rest =>
         clear HC43
         try clear c1
         try clear c2
         try clear c3
         try clear c4
         try clear hx4
         try clear hf4
         try clear c7
         try clear c10
         try clear c11
         try clear c17
         try clear c18
         try clear c29
         try clear c31
         try clear c32
         try clear c35
         try clear c39
         try clear c44
         try clear c47
         try clear c48
         try clear hx49
         try clear hf49
         try clear hcz19_0
         try clear hcz19_1
         try clear hcz23_0
         try clear hcz23_1
         try clear hfz19_0
         try clear hfz19_1
         try clear hfz23_0
         try clear hfz23_1
         try clear hx49_0
         obtain ⟨kq, x15_42, x753001_42, x753002_42, HA, HJ42, HO_13, HO_15, HO_761001, BK748, BK760, HI752, HB⟩ := hcut
         cases kq with
         | zero => exact absurd HA.out (by simp [spec_l05Part.j2])
         | succ kj42 =>
          have H := HA.out
          clear HA
          simp only [spec_l05Part.j2] at H
          obtain ⟨⟨t800, t801, t802⟩, A55, H⟩ := zb H
          try dsimp only at H
          have HC56 := zA H
          clear H
          go_upto_if 72 with (first | (refine zO (some 71) Tryd.func79 #[.pointer (some ⟨g752, 0, none⟩), .int .i64 12] ?_; (with_reducible refine (spec_l01Next.calls g752 t749 x753001_42 x753002_42 12 t800 t801 t802 w _ ?side1 ?side2 A55.out).mono ?_); (case side1 => exact Z101.uC HI752.out NB752_748.out NB752_760.out); (case side2 => exact zW HB.out (Z101.ge HI752.out) GE748.out GE760.out); rintro e w57 ⟨rfl, hi, hb, hk⟩; refine ⟨_, rfl, ?_⟩; replace HO_13 := zA (zB9 (Z101.apart (show Z101 w _ g752 t749 x753001_42 x753002_42 from Z101.uC HI752.out NB752_748.out NB752_760.out) (zP HO_13.out) (by decide)) hk); replace HO_15 := zA (zB9 (Z101.apart (show Z101 w _ g752 t749 x753001_42 x753002_42 from Z101.uC HI752.out NB752_748.out NB752_760.out) (zP HO_15.out) (by decide)) hk); replace HO_761001 := zA (zB9 (Z101.apart (show Z101 w _ g752 t749 x753001_42 x753002_42 from Z101.uC HI752.out NB752_748.out NB752_760.out) (zP HO_761001.out) (by decide)) hk); replace BK748 := zA (zB2 hk BK748.out NB748_752.out); replace BK760 := zA (zB2 hk BK760.out NB760_752.out); replace HB := zA (hb); replace HI752 := zA (hi); (try clear hb); (try clear hk); (try clear hi)))
          (try simp only [Act.put, zL, zM, zN])
          go_cut [15] (fun v15 wc => ∃ (kq : Nat) (x15_55 : List Int) (x753001_55 : Int) (x753002_55 : Int), Aside0 (spec_l05Part.j3 kq t757 x15_55 t749 x753001_55 x753002_55 t753 t754 = some (r1, r2, r3, r4)) ∧ Aside0 (kq ≤ kj42) ∧ Aside0 (Kd.R (Kd.int .i64) 2 wc w.heap.size (fun k_ => some k_ ≠ (v15 : Value).ownBlock ∧ some k_ ≠ ((.slice Ao20 t754.length co20) : Value).ownBlock) (.slice Ao21 t757.length co21) t757) ∧ Aside0 (Kd.R (Kd.int .i64) 2 wc w.heap.size (fun k_ => some k_ ≠ ((.slice Ao21 t757.length co21) : Value).ownBlock ∧ some k_ ≠ ((.slice Ao20 t754.length co20) : Value).ownBlock) v15 x15_55) ∧ Aside0 (Kd.R (Kd.int .i64) 2 wc w.heap.size (fun k_ => some k_ ≠ ((.slice Ao21 t757.length co21) : Value).ownBlock ∧ some k_ ≠ (v15 : Value).ownBlock) (.slice Ao20 t754.length co20) t754) ∧ Aside0 (wc.heap[gb748]? = some (.cells #[.int .i64 0, (.slice none 0 0)] 26 (0, 0))) ∧ Aside0 (wc.heap[gb760]? = some (.cells #[.int .i64 t753, (.slice Ao20 t754.length co20)] 26 (0, 0))) ∧ Aside0 (Z101 w wc g752 t749 x753001_55 x753002_55) ∧ Aside0 (Below w.heap.size w wc))
          case first =>
           have H := HC56.out
           clear HC56
           by_cases c58 : t800 = 0
           ·rw [if_pos c58] at H
            obtain ⟨c58b0, c58b1⟩ := zT1 c58
            clear c58
            (first | rw [c58b0] | (simp only [i64_w, i32_w]; rw [c58b0]) | skip)
            obtain ⟨⟨t803, t806, t807⟩, A59, H⟩ := zb H
            try dsimp only at H
            have H' := zA H
            clear H
            have hnb60 := NB760_748.out
            have hnc60 := NB748_760.out
            have hnb61 := NB760_752.out
            have hnc61 := NB752_760.out
            obtain ⟨hcz62_0, hcz62_1, hfz62_0, hfz62_1⟩ := zB3 BK760.out
            go_wp2_with (first | (refine zO (some 76) Tryd.func99 #[.pointer (some ⟨g752, 0, none⟩), .agg #[.int .i64 t753, .slice Ao20 t754.length co20], .int .i64 a2] ?_; (with_reducible refine (spec_l03Spoil.calls kj42 g752 t749 t801 t802 t753 _ _ t754 a2 t803 t806 t807 w _ ?side1 ?side2 ?side3 ?side4 ?side5 A59.out).mono ?_); (case side1 => exact Z101.uC HI752.out NB752_748.out NB752_760.out); (case side2 => exact zW HB.out (Z101.ge HI752.out) GE748.out GE760.out); (case side3 => exact zS (kB HO_761001.out).2.2); (case side4 => exact (kB HO_761001.out).2.1); (case side5 => exact jJ (Z101.own_ne HI752.out HO_761001.out (by decide))); rintro e w63 ⟨v804, rfl, ho0, hi, hb, hk⟩; refine ⟨_, rfl, ?_⟩; replace BK748 := zA (zB2 hk BK748.out NB748_752.out); replace BK760 := zA (zB2 hk BK760.out NB760_752.out); have HO805 := zA (kI (kF (kF (kF ho0 (kH (zP HO_13.out))) (kH (zP HO_15.out))) (kH (zP HO_761001.out))) (kP (zW HB.out (Z101.ge HI752.out) GE748.out GE760.out))); replace HO_13 := zA (kA (Kd.R_told (Kd.R_oldK (Z101.apart (show Z101 w _ g752 t749 t801 t802 from Z101.uC HI752.out NB752_748.out NB752_760.out) (zP HO_13.out) (by decide)) hk) (kC ho0)) (fun _ h_ => h_.1)); replace HO_15 := zA (kA (Kd.R_told (Kd.R_oldK (Z101.apart (show Z101 w _ g752 t749 t801 t802 from Z101.uC HI752.out NB752_748.out NB752_760.out) (zP HO_15.out) (by decide)) hk) (kC ho0)) (fun _ h_ => h_.1)); replace HO_761001 := zA (kA (Kd.R_told (Kd.R_oldK (Z101.apart (show Z101 w _ g752 t749 t801 t802 from Z101.uC HI752.out NB752_748.out NB752_760.out) (zP HO_761001.out) (by decide)) hk) (kC ho0)) (fun _ h_ => h_.1)); replace HB := zA (hb); replace HI752 := zA (hi); (try clear hb); (try clear hk); (try clear hi); (try clear ho0)))
            go_meet
            case rel => exact ⟨_, (t803), (t806), (t807), H', ⟨by have := HJ12.out; have := HJ36.out; have := HJ42.out; first | omega | exact Nat.le_refl _⟩, ⟨zPM HO_13.out (fun _ hk => ⟨hk.2, hk.1.2⟩)⟩, ⟨zPM HO805.out (fun _ hk => ⟨hk.1.1.2, hk.2⟩)⟩, ⟨zPM HO_761001.out (fun _ hk => ⟨hk.1.1, hk.2⟩)⟩, ⟨zR BK748.out⟩, ⟨zR BK760.out⟩, ⟨Z101.uC HI752.out NB752_748.out NB752_760.out⟩, ⟨zW HB.out (Z101.ge HI752.out) GE748.out GE760.out⟩⟩
           rw [if_neg c58] at H
           obtain ⟨c58b0, c58b1⟩ := zT2 c58
           (first | rw [c58b0] | (simp only [i64_w, i32_w]; rw [c58b0]) | skip)
           have H' := zA H
           clear H
           go_wp2
           go_meet
           case rel => exact ⟨_, (x15_42), (t801), (t802), H', ⟨by have := HJ12.out; have := HJ36.out; have := HJ42.out; first | omega | exact Nat.le_refl _⟩, ⟨zP HO_13.out⟩, ⟨zP HO_15.out⟩, ⟨zP HO_761001.out⟩, ⟨zR BK748.out⟩, ⟨zR BK760.out⟩, ⟨Z101.uC HI752.out NB752_748.out NB752_760.out⟩, ⟨zW HB.out (Z101.ge HI752.out) GE748.out GE760.out⟩⟩
          case rest =>
           clear HC56
           try clear c1
           try clear c2
           try clear c3
           try clear c4
           try clear hx4
           try clear hf4
           try clear c5
           try clear c6
           try clear c7
           try clear c9
           try clear c10
           try clear c11
           try clear c17
           try clear c18
           try clear c29
           try clear c31
           try clear c32
           try clear c35
           try clear c39
           try clear c44
           try clear c47
           try clear c48
           try clear hx49
           try clear hf49
           try clear c58
           try clear c60
           try clear c61
           try clear hcz19_0
           try clear hcz19_1
           try clear hcz23_0
           try clear hcz23_1
           try clear hcz62_0
           try clear hcz62_1
           try clear hfz19_0
           try clear hfz19_1
           try clear hfz23_0
           try clear hfz23_1
           try clear hfz62_0
           try clear hfz62_1
           try clear hx49_0
           obtain ⟨kq, x15_55, x753001_55, x753002_55, HA, HJ55, HO_13, HO_15, HO_761001, BK748, BK760, HI752, HB⟩ := hcut
           cases kq with
           | zero => exact absurd HA.out (by simp [spec_l05Part.j3])
           | succ kj55 =>
            have H := HA.out
            clear HA
            simp only [spec_l05Part.j3] at H
            obtain ⟨t808, A64, H⟩ := zb H
            try dsimp only at H
            by_cases c65 : t808 = true
            ·subst c65
             rw [if_pos rfl] at H
             obtain ⟨⟨t809, t812, t813⟩, A66, H⟩ := zb H
             try dsimp only at H
             simp only [Option.some.injEq, Prod.mk.injEq] at H
             obtain ⟨rfl, rfl, rfl, rfl⟩ := H
             have hnb67 := NB760_748.out
             have hnc67 := NB748_760.out
             have hnb68 := NB760_752.out
             have hnc68 := NB752_760.out
             obtain ⟨hcz69_0, hcz69_1, hfz69_0, hfz69_1⟩ := zB3 BK760.out
             obtain ⟨Ao70, co70, eo70⟩ := kM HO_15.out
             subst eo70
             go_wp2_with (first | (refine zO (some 79) Tryd.func77 #[.agg #[.int .i64 t753, .slice Ao20 t754.length co20], .slice Ao70 x15_55.length co70] ?_; (with_reducible refine (spec_l03Is.calls kj55 t753 _ _ t754 _ _ x15_55 true _ ?side1 ?side2 ?side3 ?side4 A64.out).mono ?_); (case side1 => exact zS (kB HO_761001.out).2.2); (case side2 => exact (kB HO_761001.out).2.1); (case side3 => exact zS (kB HO_15.out).2.2); (case side4 => exact (kB HO_15.out).2.1); rintro e w71 ⟨rfl, hb⟩; refine ⟨_, rfl, ?_⟩; replace HO_13 := zA (kL (zP HO_13.out) hb); replace HO_15 := zA (kL (zP HO_15.out) hb); replace HO_761001 := zA (kL (zP HO_761001.out) hb); replace BK748 := zA (zB1 BK748.out hb); replace BK760 := zA (zB1 BK760.out hb); replace HB := zA (kQ (zW HB.out (Z101.ge HI752.out) GE748.out GE760.out) hb); replace HI752 := zA (Z101.below (Z101.uC HI752.out NB752_748.out NB752_760.out) hb); (try clear hb); obtain ⟨hcz72_0, hcz72_1, hfz72_0, hfz72_1⟩ := zB3 BK760.out) | (refine zO (some 83) Tryd.func115 #[.pointer (some ⟨g752, 0, none⟩), .agg #[.int .i64 t753, .slice Ao20 t754.length co20], .slice Ao70 x15_55.length co70] ?_; (with_reducible refine (spec_l03Shuffle.calls kj55 g752 t749 x753001_55 x753002_55 t753 _ _ t754 _ _ x15_55 t809 t812 t813 w _ ?side1 ?side2 ?side3 ?side4 ?side5 ?side6 ?side7 ?side8 A66.out).mono ?_); (case side1 => exact Z101.uC HI752.out NB752_748.out NB752_760.out); (case side2 => exact zW HB.out (Z101.ge HI752.out) GE748.out GE760.out); (case side3 => exact zS (kB HO_761001.out).2.2); (case side4 => exact (kB HO_761001.out).2.1); (case side5 => exact jJ (Z101.own_ne HI752.out HO_761001.out (by decide))); (case side6 => exact zS (kB HO_15.out).2.2); (case side7 => exact (kB HO_15.out).2.1); (case side8 => exact jJ (Z101.own_ne HI752.out HO_15.out (by decide))); rintro e w73 ⟨v810, rfl, ho0, hi, hb, hk⟩; refine ⟨_, rfl, ?_⟩; replace BK748 := zA (zB2 hk BK748.out NB748_752.out); replace BK760 := zA (zB2 hk BK760.out NB760_752.out); have HO811 := zA (kI (kF (kF (kF ho0 (kH (zP HO_13.out))) (kH (zP HO_15.out))) (kH (zP HO_761001.out))) (kP (zW HB.out (Z101.ge HI752.out) GE748.out GE760.out))); replace HO_13 := zA (kA (Kd.R_told (Kd.R_oldK (Z101.apart (show Z101 w _ g752 t749 x753001_55 x753002_55 from Z101.uC HI752.out NB752_748.out NB752_760.out) (zP HO_13.out) (by decide)) hk) (kC ho0)) (fun _ h_ => h_.1)); replace HO_15 := zA (kA (Kd.R_told (Kd.R_oldK (Z101.apart (show Z101 w _ g752 t749 x753001_55 x753002_55 from Z101.uC HI752.out NB752_748.out NB752_760.out) (zP HO_15.out) (by decide)) hk) (kC ho0)) (fun _ h_ => h_.1)); replace HO_761001 := zA (kA (Kd.R_told (Kd.R_oldK (Z101.apart (show Z101 w _ g752 t749 x753001_55 x753002_55 from Z101.uC HI752.out NB752_748.out NB752_760.out) (zP HO_761001.out) (by decide)) hk) (kC ho0)) (fun _ h_ => h_.1)); replace HB := zA (hb); replace HI752 := zA (hi); (try clear hb); (try clear hk); (try clear hi); (try clear ho0); obtain ⟨hcz74_0, hcz74_1, hfz74_0, hfz74_1⟩ := zB3 BK760.out; have hnb75 := NB748_752.out; have hnc75 := NB752_748.out; obtain ⟨hcz76_0, hcz76_1, hfz76_0, hfz76_1⟩ := zB3 BK748.out))
             refine bodyPost_ret (results_ctt rfl _ _ gb748 26 #[.int .i64 t753, .slice Ao20 t754.length co20] (0, 0) _ rfl (zRP BK748.out) Tryd.underlying26 rfl (by kernel_rfl)) rfl ?_
             exact ⟨_, _, _, zr, by (with_reducible repeat (first | apply zF | apply zG | apply zH)); exact kA (kY (p := ⟨gb748, 1, none⟩) (kY (p := ⟨gb748, 0, none⟩) (kD HO_761001.out BK748.out (by decide)) (fun _ hk => hk.2) (.int .i64 t753)) (fun _ hk => hk.2) (.slice Ao20 t754.length co20)) (fun _ hk => ⟨hk.1.2, hk.1.1.1⟩), by (with_reducible repeat (first | apply zF | apply zG | apply zH)); exact kA (kY (p := ⟨gb748, 1, none⟩) (kY (p := ⟨gb748, 0, none⟩) (kD HO811.out BK748.out (by decide)) (fun _ hk => hk.2) (.int .i64 t753)) (fun _ hk => hk.2) (.slice Ao20 t754.length co20)) (fun _ hk => ⟨hk.1.2, hk.1.1.1.2⟩), by (with_reducible repeat (first | apply zF | apply zG | apply zH)); exact kA (kY (p := ⟨gb748, 1, none⟩) (kY (p := ⟨gb748, 0, none⟩) (kD HO_13.out BK748.out (by decide)) (fun _ hk => hk.2) (.int .i64 t753)) (fun _ hk => hk.2) (.slice Ao20 t754.length co20)) (fun _ hk => ⟨hk.1.1.2, hk.1.2⟩), zW HB.out (Z101.ge HI752.out) GE748.out GE760.out⟩
            replace c65 := Bool.eq_false_iff.mpr c65
            subst c65
            rw [if_neg (show ¬ (false = true) by decide)] at H
            simp only [Option.some.injEq, Prod.mk.injEq] at H
            obtain ⟨rfl, rfl, rfl, rfl⟩ := H
            have hnb77 := NB760_748.out
            have hnc77 := NB748_760.out
            have hnb78 := NB760_752.out
            have hnc78 := NB752_760.out
            obtain ⟨hcz79_0, hcz79_1, hfz79_0, hfz79_1⟩ := zB3 BK760.out
            obtain ⟨Ao80, co80, eo80⟩ := kM HO_15.out
            subst eo80
            go_wp2_with (first | (refine zO (some 79) Tryd.func77 #[.agg #[.int .i64 t753, .slice Ao20 t754.length co20], .slice Ao80 x15_55.length co80] ?_; (with_reducible refine (spec_l03Is.calls kj55 t753 _ _ t754 _ _ x15_55 false _ ?side1 ?side2 ?side3 ?side4 A64.out).mono ?_); (case side1 => exact zS (kB HO_761001.out).2.2); (case side2 => exact (kB HO_761001.out).2.1); (case side3 => exact zS (kB HO_15.out).2.2); (case side4 => exact (kB HO_15.out).2.1); rintro e w81 ⟨rfl, hb⟩; refine ⟨_, rfl, ?_⟩; replace HO_13 := zA (kL (zP HO_13.out) hb); replace HO_15 := zA (kL (zP HO_15.out) hb); replace HO_761001 := zA (kL (zP HO_761001.out) hb); replace BK748 := zA (zB1 BK748.out hb); replace BK760 := zA (zB1 BK760.out hb); replace HB := zA (kQ (zW HB.out (Z101.ge HI752.out) GE748.out GE760.out) hb); replace HI752 := zA (Z101.below (Z101.uC HI752.out NB752_748.out NB752_760.out) hb); (try clear hb); obtain ⟨hcz82_0, hcz82_1, hfz82_0, hfz82_1⟩ := zB3 BK760.out; have hnb83 := NB748_752.out; have hnc83 := NB752_748.out; obtain ⟨hcz84_0, hcz84_1, hfz84_0, hfz84_1⟩ := zB3 BK748.out))
            refine bodyPost_ret (results_ctt rfl _ _ gb748 26 #[.int .i64 t753, .slice Ao20 t754.length co20] (0, 0) _ rfl (zRP BK748.out) Tryd.underlying26 rfl (by kernel_rfl)) rfl ?_
            exact ⟨_, _, _, zr, by (with_reducible repeat (first | apply zF | apply zG | apply zH)); exact kA (kY (p := ⟨gb748, 1, none⟩) (kY (p := ⟨gb748, 0, none⟩) (kD HO_761001.out BK748.out (by decide)) (fun _ hk => hk.2) (.int .i64 t753)) (fun _ hk => hk.2) (.slice Ao20 t754.length co20)) (fun _ hk => ⟨hk.1.2, hk.1.1⟩), by (with_reducible repeat (first | apply zF | apply zG | apply zH)); exact kA (kY (p := ⟨gb748, 1, none⟩) (kY (p := ⟨gb748, 0, none⟩) (kD HO_15.out BK748.out (by decide)) (fun _ hk => hk.2) (.int .i64 t753)) (fun _ hk => hk.2) (.slice Ao20 t754.length co20)) (fun _ hk => ⟨hk.1.2, hk.1.1⟩), by (with_reducible repeat (first | apply zF | apply zG | apply zH)); exact kA (kY (p := ⟨gb748, 1, none⟩) (kY (p := ⟨gb748, 0, none⟩) (kD HO_13.out BK748.out (by decide)) (fun _ hk => hk.2) (.int .i64 t753)) (fun _ hk => hk.2) (.slice Ao20 t754.length co20)) (fun _ hk => ⟨hk.1.2, hk.1.1⟩), zW HB.out (Z101.ge HI752.out) GE748.out GE760.out⟩
   rw [if_neg c11] at H
   exact absurd H (by simp)
  rw [if_neg c10] at H
  exact absurd H (by simp)
 replace c7 := Bool.eq_false_iff.mpr c7
 subst c7
 rw [if_neg (show ¬ (false = true) by decide)] at H
 obtain ⟨y762, hy762⟩ : ∃ y_ : List Int, y_ = (([0] : List Int)) := ⟨_, rfl⟩
 replace H : (some (t753, t754, y762, t757)) = some (r1, r2, r3, r4) := zy hy762 H
 have Ny762 := zA hy762
 clear hy762
 simp only [Option.some.injEq, Prod.mk.injEq] at H
 obtain ⟨rfl, rfl, rfl, rfl⟩ := H
 go_enter Tryd.func70, Tryd.ntmps70
 go_wp2_with (first | (refine zBE 8 #[.int .i64 0, .slice none 0 0] 26 ?_; intro gb748 hg w85 hbox hb; have BK748 := zA (hbox); have GW748 := zA (zBH hg HB.out); have GE748 := zA (zBH hg HB.out); replace HB := zA (kQ (zQ HB.out) hb); clear hb hbox hg) | (refine zO (some 20) Tryd.func48 #[.slice A0 l0.length c0, .int .i64 a1, .int .i64 a2] ?_; (with_reducible refine (spec_l03Pair.calls k _ _ l0 a1 a2 t749 t750 t751 t753 t754 t757 w _ ?side1 ?side2 ?side3 A5.out).mono ?_); (case side1 => exact zT HB.out GE748.out); (case side2 => exact HR0.out); (case side3 => exact HC0.out); rintro e w86 ⟨v755, v758, g752, rfl, ho0, ho1, hi, hb, hb2, hgw⟩; refine ⟨_, rfl, ?_⟩; have HO756 := zA (kI ho0 (kP (zT HB.out GE748.out))); have HO759 := zA (kI ho1 (kP (zT HB.out GE748.out))); replace HB := zA (hb); have HI752 := zA (hi); have NB752_748 := zA (Z101.ne_blk hi (blk_below (g := gb748) (o := .cells #[.int .i64 0, .slice none 0 0] 26 (0, 0)) (zR BK748.out) hb2) (by decide)); have NB748_752 := zA (Ne.symm (Z101.ne_blk hi (blk_below (g := gb748) (o := .cells #[.int .i64 0, .slice none 0 0] 26 (0, 0)) (zR BK748.out) hb2) (by decide))); replace BK748 := zA (zB1 BK748.out hb2); (try clear hb); (try clear hb2); (try clear hi); (try clear hgw); (try clear ho0); (try clear ho1)) | (refine zBE 12 #[.int .i64 0, .slice none 0 0] 26 ?_; intro gb760 hg w87 hbox hb; replace HO756 := zA (kL (zP HO756.out) hb); replace HO759 := zA (kL (zP HO759.out) hb); have BK760 := zA (hbox); have GW760 := zA (zB6 hg (kP (zV HB.out (Z101.ge HI752.out) GE748.out)) : w.heap.size ≤ gb760); have GE760 := zA (zB6 hg (kP (zV HB.out (Z101.ge HI752.out) GE748.out)) : w.heap.size ≤ gb760); replace HB := zA (kQ (zV HB.out (Z101.ge HI752.out) GE748.out) hb); have NB748_760 := zA (zB4 hg BK748.out : gb748 ≠ gb760); have NB760_748 := zA (zB5 hg BK748.out : gb760 ≠ gb748); replace BK748 := zA (zB1 BK748.out hb); have NB752_760 := zA (zB7 hg (Z101.lt (show Z101 w _ g752 t749 t750 t751 from Z101.uB HI752.out NB752_748.out)) : g752 ≠ gb760); have NB760_752 := zA (zB8 hg (Z101.lt (show Z101 w _ g752 t749 t750 t751 from Z101.uB HI752.out NB752_748.out)) : gb760 ≠ g752); replace HI752 := zA (Z101.below (Z101.uB HI752.out NB752_748.out) hb); clear hb hbox hg; have hnb88 := NB760_748.out; have hnc88 := NB748_760.out; have hnb89 := NB760_752.out; have hnc89 := NB752_760.out; obtain ⟨hcz90_0, hcz90_1, hfz90_0, hfz90_1⟩ := zB3 BK760.out; obtain ⟨Ao91, co91, eo91⟩ := kM HO756.out; subst eo91; obtain ⟨Ao92, co92, eo92⟩ := kM HO759.out; subst eo92) | (refine zO (some 26) Tryd.func77 #[.agg #[.int .i64 t753, .slice Ao91 t754.length co91], .slice Ao92 t757.length co92] ?_; (with_reducible refine (spec_l03Is.calls k t753 _ _ t754 _ _ t757 false _ ?side1 ?side2 ?side3 ?side4 A6.out).mono ?_); (case side1 => refine (kB (e := 2) (base := w.heap.size) (ok := fun k_ => some k_ ≠ (.slice Ao92 t757.length co92 : Value).ownBlock) (n := t754.length) (c := co91) ?_).2.2; exact (zP (zFG HO756.out BK760.out (.int .i64 t753) (.slice Ao91 t754.length co91)))); (case side2 => exact (kB HO756.out).2.1); (case side3 => refine (kB (e := 2) (base := w.heap.size) (ok := fun k_ => some k_ ≠ (.slice Ao91 t754.length co91 : Value).ownBlock) (n := t757.length) (c := co92) ?_).2.2; exact (zP (zFG HO759.out BK760.out (.int .i64 t753) (.slice Ao91 t754.length co91)))); (case side4 => exact (kB HO759.out).2.1); rintro e w93 ⟨rfl, hb⟩; refine ⟨_, rfl, ?_⟩; replace HO756 := zA (kL (zP (zFG HO756.out BK760.out (.int .i64 t753) (.slice Ao91 t754.length co91))) hb); replace HO759 := zA (kL (zP (zFG HO759.out BK760.out (.int .i64 t753) (.slice Ao91 t754.length co91))) hb); replace BK748 := zA (blk_below (g := gb748) (o := .cells #[.int .i64 0, .slice none 0 0] 26 (0, 0)) (zBG BK748.out NB748_760.out NB748_760.out) hb); replace BK760 := zA (blk_below (g := gb760) (o := .cells #[.int .i64 t753, .slice Ao91 t754.length co91] 26 (0, 0)) (zRP BK760.out) hb); replace HB := zA (kQ (zW HB.out (Z101.ge HI752.out) GE748.out GE760.out) hb); replace HI752 := zA (Z101.below (show Z101 w ((w87.setCell ⟨gb760, 0, none⟩ (.int .i64 t753)).setCell ⟨gb760, 1, none⟩ (.slice Ao91 t754.length co91)) g752 t749 t750 t751 from Z101.uC HI752.out NB752_748.out NB752_760.out) hb); (try clear hb); obtain ⟨hcz94_0, hcz94_1, hfz94_0, hfz94_1⟩ := zB3 BK760.out) | ((with_reducible refine kS (N := 29) rfl ?_); refine Kd.R_lit (Kd.int .i64) _ 2 ?hg (N := 29) ?hd (xs := ([0] : List Int)) (inner := [.int .i64 0]) (ok := fun _ => True) (okp := fun _ => True) ?hr ?hp (fun _ hk => hk) trivial (kW _ _) (Nat.le_refl _) (by simp) ?_; (case hd => rfl); (case hg => rfl); (case hr => first | (go_simp; done) | (go_simp; rfl)); (case hp => exact (Reps.one (show Kd.M (Kd.int .i64) _ _ _ 0 [.int .i64 0] from rfl) (Reps.none _ _))); intro v763 w95 ho96 hb hg_ hnew_; clear hg_ hnew_; (first | rw [← Ny762.out] at ho96 | (simp only [Int.reduceToNat] at ho96; rw [← Ny762.out] at ho96)); have HO764 := zA (kI (kF (kF ho96 (kH (zP HO756.out))) (kH (zP HO759.out))) (kP (zW HB.out (Z101.ge HI752.out) GE748.out GE760.out))); replace HO756 := zA (kE (zP HO756.out) (kC ho96) hb); replace HO759 := zA (kE (zP HO759.out) (kC ho96) hb); replace BK748 := zA (zB1 BK748.out hb); replace BK760 := zA (zB1 BK760.out hb); replace HB := zA (kQ (zW HB.out (Z101.ge HI752.out) GE748.out GE760.out) hb); replace HI752 := zA (Z101.below (Z101.uC HI752.out NB752_748.out NB752_760.out) hb); clear hb ho96; have hnb97 := NB748_752.out; have hnc97 := NB752_748.out; obtain ⟨hcz98_0, hcz98_1, hfz98_0, hfz98_1⟩ := zB3 BK748.out))
 refine bodyPost_ret (results_ctt rfl _ _ gb748 26 #[.int .i64 t753, .slice Ao91 t754.length co91] (0, 0) _ rfl (zRP BK748.out) Tryd.underlying26 rfl (by kernel_rfl)) rfl ?_
 exact ⟨_, _, _, zr, by (with_reducible repeat (first | apply zF | apply zG | apply zH)); exact kA (kY (p := ⟨gb748, 1, none⟩) (kY (p := ⟨gb748, 0, none⟩) (kD HO756.out BK748.out (by decide)) (fun _ hk => hk.2) (.int .i64 t753)) (fun _ hk => hk.2) (.slice Ao91 t754.length co91)) (fun _ hk => ⟨hk.1.2, hk.1.1⟩), by (with_reducible repeat (first | apply zF | apply zG | apply zH)); exact kA (kY (p := ⟨gb748, 1, none⟩) (kY (p := ⟨gb748, 0, none⟩) (kD HO764.out BK748.out (by decide)) (fun _ hk => hk.2) (.int .i64 t753)) (fun _ hk => hk.2) (.slice Ao91 t754.length co91)) (fun _ hk => ⟨hk.1.1.2, hk.1.2⟩), by (with_reducible repeat (first | apply zF | apply zG | apply zH)); exact kA (kY (p := ⟨gb748, 1, none⟩) (kY (p := ⟨gb748, 0, none⟩) (kD HO759.out BK748.out (by decide)) (fun _ hk => hk.2) (.int .i64 t753)) (fun _ hk => hk.2) (.slice Ao91 t754.length co91)) (fun _ hk => ⟨hk.1.1, hk.1.2⟩), zW HB.out (Z101.ge HI752.out) GE748.out GE760.out⟩

/-! ### spec_DrawLeftQuotient: function 23 -/
def spec_DrawLeftQuotient.f (k : Nat) (l0 : List Int) : Option (Int × List Int × List Int × List Int) := (spec_l05Part.f k l0 6 24 false).bind fun bt815 => (some (bt815.1, bt815.2.1, bt815.2.2.1, bt815.2.2.2))

set_option maxHeartbeats 8000000 in
set_option maxRecDepth 100000 in
theorem spec_DrawLeftQuotient.calls (k : Nat) (A0 : Option Addr) (c0 : Nat) (l0 : List Int) (r1 : Int) (r2 : List Int) (r3 : List Int) (r4 : List Int) (w : World) (hr0 : Kd.C (Kd.int .u8) w A0 l0.length l0) (hc0 : l0.length ≤ c0) (h : spec_DrawLeftQuotient.f k l0 = some (r1, r2, r3, r4)) :
  Calls Tryd.prog 23 #[.slice A0 l0.length c0] w fun e w' => ∃ v1_ v2_ v3_ : Value, e = .returned (.tuple #[.agg #[.int .i64 r1, v1_], v2_, v3_]) ∧ Kd.R (Kd.int .i64) 2 w' w.heap.size (fun k_ => some k_ ≠ (v2_ : Value).ownBlock ∧ some k_ ≠ (v3_ : Value).ownBlock) v1_ r2 ∧ Kd.R (Kd.int .i64) 2 w' w.heap.size (fun k_ => some k_ ≠ (v1_ : Value).ownBlock ∧ some k_ ≠ (v3_ : Value).ownBlock) v2_ r3 ∧ Kd.R (Kd.int .i64) 2 w' w.heap.size (fun k_ => some k_ ≠ (v1_ : Value).ownBlock ∧ some k_ ≠ (v2_ : Value).ownBlock) v3_ r4 ∧ Below w.heap.size w w' := by
 have hu26 := Tryd.underlying26
 have HR0 := zA hr0
 have HC0 := zA hc0
 clear hr0 hc0
 have HB := zA (kW w.heap.size w)
 have H := h
 unfold spec_DrawLeftQuotient.f at H
 clear h
 obtain ⟨⟨t815, t816, t819, t822⟩, A2, H⟩ := zb H
 try dsimp only at H
 simp only [Option.some.injEq, Prod.mk.injEq] at H
 obtain ⟨rfl, rfl, rfl, rfl⟩ := H
 go_enter Tryd.func23, Tryd.ntmps23
 go_wp2_with (first | (refine zBE 2 #[.int .i64 0, .slice none 0 0] 26 ?_; intro gb814 hg w3 hbox hb; have BK814 := zA (hbox); have GW814 := zA (zBH hg HB.out); have GE814 := zA (zBH hg HB.out); replace HB := zA (kQ (zQ HB.out) hb); clear hb hbox hg) | (refine zO (some 10) Tryd.func70 #[.slice A0 l0.length c0, .int .i64 6, .int .i64 24, .bool false] ?_; (with_reducible refine (spec_l05Part.calls k _ _ l0 6 24 false t815 t816 t819 t822 _ ?side1 ?side2 A2.out).mono ?_); (case side1 => exact zS (kO HR0.out HB.out)); (case side2 => exact HC0.out); rintro e w4 ⟨v817, v820, v823, rfl, ho0, ho1, ho2, hb⟩; refine ⟨_, rfl, ?_⟩; have HO818 := zA (kI ho0 (kP (zT HB.out GE814.out))); have HO821 := zA (kI ho1 (kP (zT HB.out GE814.out))); have HO824 := zA (kI ho2 (kP (zT HB.out GE814.out))); replace BK814 := zA (zB1 BK814.out hb); replace HB := zA (kQ (zT HB.out GE814.out) hb); (try clear hb); (try clear ho0); (try clear ho1); (try clear ho2)) | (refine zBE 5 #[.int .i64 0, .slice none 0 0] 26 ?_; intro gb825 hg w5 hbox hb; replace HO818 := zA (kL (zP HO818.out) hb); replace HO821 := zA (kL (zP HO821.out) hb); replace HO824 := zA (kL (zP HO824.out) hb); have BK825 := zA (hbox); have GW825 := zA (zB6 hg (kP (zT HB.out GE814.out)) : w.heap.size ≤ gb825); have GE825 := zA (zB6 hg (kP (zT HB.out GE814.out)) : w.heap.size ≤ gb825); replace HB := zA (kQ (zT HB.out GE814.out) hb); have NB814_825 := zA (zB4 hg BK814.out : gb814 ≠ gb825); have NB825_814 := zA (zB5 hg BK814.out : gb825 ≠ gb814); replace BK814 := zA (zB1 BK814.out hb); clear hb hbox hg; have hnb6 := NB825_814.out; have hnc6 := NB814_825.out; obtain ⟨hcz7_0, hcz7_1, hfz7_0, hfz7_1⟩ := zB3 BK825.out; obtain ⟨Ao8, co8, eo8⟩ := kM HO818.out; subst eo8; obtain ⟨hcz9_0, hcz9_1, hfz9_0, hfz9_1⟩ := zB3 BK814.out))
 refine bodyPost_ret (results_ctt rfl _ _ gb814 26 #[.int .i64 t815, .slice Ao8 t816.length co8] (0, 0) _ rfl (by (with_reducible repeat (first | refine zJ ?_ _ | refine zK ?_ | refine zI ?_ _)); refine blk_put (cs := #[.int .i64 t815, .slice none 0 0]) ?_ 1 _ rfl; (with_reducible repeat (first | refine zJ ?_ _ | refine zK ?_ | refine zI ?_ _)); refine blk_put (cs := #[.int .i64 0, .slice none 0 0]) ?_ 0 _ rfl; (with_reducible repeat (first | refine zJ ?_ _ | refine zK ?_ | refine zI ?_ _)); refine blk_far ?_ NB814_825.out _; (with_reducible repeat (first | refine zJ ?_ _ | refine zK ?_ | refine zI ?_ _)); refine blk_far ?_ NB814_825.out _; (with_reducible repeat (first | refine zJ ?_ _ | refine zK ?_ | refine zI ?_ _)); exact BK814.out) Tryd.underlying26 rfl (by kernel_rfl)) rfl ?_
 exact ⟨_, _, _, zr, by (with_reducible repeat (first | apply zF | apply zG | apply zH)); exact kA (kY (p := ⟨gb814, 1, none⟩) (kY (p := ⟨gb814, 0, none⟩) (kY (p := ⟨gb825, 1, none⟩) (kY (p := ⟨gb825, 0, none⟩) (kD (kD HO818.out BK825.out (by decide)) BK814.out (by decide)) (fun _ hk => hk.1.2) (.int .i64 t815)) (fun _ hk => hk.1.2) (.slice Ao8 t816.length co8)) (fun _ hk => hk.2) (.int .i64 t815)) (fun _ hk => hk.2) (.slice Ao8 t816.length co8)) (fun _ hk => ⟨hk.1.1.1, hk.1.1.2⟩), by (with_reducible repeat (first | apply zF | apply zG | apply zH)); exact kA (kY (p := ⟨gb814, 1, none⟩) (kY (p := ⟨gb814, 0, none⟩) (kY (p := ⟨gb825, 1, none⟩) (kY (p := ⟨gb825, 0, none⟩) (kD (kD HO821.out BK825.out (by decide)) BK814.out (by decide)) (fun _ hk => hk.1.2) (.int .i64 t815)) (fun _ hk => hk.1.2) (.slice Ao8 t816.length co8)) (fun _ hk => hk.2) (.int .i64 t815)) (fun _ hk => hk.2) (.slice Ao8 t816.length co8)) (fun _ hk => ⟨hk.1.1.1, hk.1.1.2⟩), by (with_reducible repeat (first | apply zF | apply zG | apply zH)); exact kA (kY (p := ⟨gb814, 1, none⟩) (kY (p := ⟨gb814, 0, none⟩) (kY (p := ⟨gb825, 1, none⟩) (kY (p := ⟨gb825, 0, none⟩) (kD (kD HO824.out BK825.out (by decide)) BK814.out (by decide)) (fun _ hk => hk.1.2) (.int .i64 t815)) (fun _ hk => hk.1.2) (.slice Ao8 t816.length co8)) (fun _ hk => hk.2) (.int .i64 t815)) (fun _ hk => hk.2) (.slice Ao8 t816.length co8)) (fun _ hk => ⟨hk.1.1.1, hk.1.1.2⟩), zV HB.out GE814.out GE825.out⟩

/-! ### spec_LeftQuotient: function 24 -/
def spec_LeftQuotient.f (k : Nat) (a0_0 : Int) (l0_1 : List Int) (l1 : List Int) (l2 : List Int) : Option (List Int × Int) := (spec_l03Code.f k a0_0 l0_1 l1 l2).bind fun t836 => (if t836 = 0 then ((spec_l05Cut.f k a0_0 l0_1 l1 l2).bind fun bt837 => (if bt837.2 = true then ((spec_l03Normal.f k a0_0 l0_1 bt837.1).bind fun t841 => (some (t841, 0))) else (some (([] : List Int), 4)))) else (some (([] : List Int), t836)))

set_option maxHeartbeats 8000000 in
set_option maxRecDepth 100000 in
theorem spec_LeftQuotient.calls (k : Nat) (a0_0 : Int) (A0_1 : Option Addr) (c0_1 : Nat) (l0_1 : List Int) (A1 : Option Addr) (c1 : Nat) (l1 : List Int) (A2 : Option Addr) (c2 : Nat) (l2 : List Int) (r1 : List Int) (r2 : Int) (w : World) (hr0_1 : Kd.C (Kd.int .i64) w A0_1 l0_1.length l0_1) (hc0_1 : l0_1.length ≤ c0_1) (hr1 : Kd.C (Kd.int .i64) w A1 l1.length l1) (hc1 : l1.length ≤ c1) (hr2 : Kd.C (Kd.int .i64) w A2 l2.length l2) (hc2 : l2.length ≤ c2) (h : spec_LeftQuotient.f k a0_0 l0_1 l1 l2 = some (r1, r2)) :
  Calls Tryd.prog 24 #[.agg #[.int .i64 a0_0, .slice A0_1 l0_1.length c0_1], .slice A1 l1.length c1, .slice A2 l2.length c2] w fun e w' => ∃ v0_ : Value, e = .returned (.tuple #[v0_, .int .i64 r2]) ∧ Kd.R (Kd.int .i64) 2 w' w.heap.size (fun _ => True) v0_ r1 ∧ Below w.heap.size w w' := by
 have hu26 := Tryd.underlying26
 have HR0_1 := zA hr0_1
 have HC0_1 := zA hc0_1
 clear hr0_1 hc0_1
 have HR1 := zA hr1
 have HC1 := zA hc1
 clear hr1 hc1
 have HR2 := zA hr2
 have HC2 := zA hc2
 clear hr2 hc2
 have HB := zA (kW w.heap.size w)
 have H := h
 unfold spec_LeftQuotient.f at H
 clear h
 obtain ⟨t836, A4, H⟩ := zb H
 try dsimp only at H
 by_cases c5 : t836 = 0
 ·rw [if_pos c5] at H
  obtain ⟨c5b0, c5b1⟩ := zT1 c5
  clear c5
  obtain ⟨⟨t837, t840⟩, A6, H⟩ := zb H
  try dsimp only at H
  by_cases c7 : t840 = true
  ·subst c7
   rw [if_pos rfl] at H
   obtain ⟨t841, A8, H⟩ := zb H
   try dsimp only at H
   simp only [Option.some.injEq, Prod.mk.injEq] at H
   obtain ⟨rfl, rfl⟩ := H
   go_enter Tryd.func24, Tryd.ntmps24
   go_wp2_with (first | (refine zBE 3 #[.int .i64 a0_0, .slice A0_1 l0_1.length c0_1] 26 ?_; intro gb835 hg w9 hbox hb; have BK835 := zA (hbox); have GW835 := zA (zBH hg HB.out); have GE835 := zA (zBH hg HB.out); replace HB := zA (kQ (zQ HB.out) hb); clear hb hbox hg; obtain ⟨hcz10_0, hcz10_1, hfz10_0, hfz10_1⟩ := zB3 BK835.out) | (refine zO (some 14) Tryd.func52 #[.agg #[.int .i64 a0_0, .slice A0_1 l0_1.length c0_1], .slice A1 l1.length c1, .slice A2 l2.length c2] ?_; (with_reducible refine (spec_l03Code.calls k a0_0 _ _ l0_1 _ _ l1 _ _ l2 t836 _ ?side1 ?side2 ?side3 ?side4 ?side5 ?side6 A4.out).mono ?_); (case side1 => exact zS (kO HR0_1.out HB.out)); (case side2 => exact HC0_1.out); (case side3 => exact zS (kO HR1.out HB.out)); (case side4 => exact HC1.out); (case side5 => exact zS (kO HR2.out HB.out)); (case side6 => exact HC2.out); rintro e w11 ⟨rfl, hb⟩; refine ⟨_, rfl, ?_⟩; replace BK835 := zA (zB1 BK835.out hb); replace HB := zA (kQ (zT HB.out GE835.out) hb); (try clear hb); obtain ⟨hcz12_0, hcz12_1, hfz12_0, hfz12_1⟩ := zB3 BK835.out) | (refine zO (some 22) Tryd.func71 #[.agg #[.int .i64 a0_0, .slice A0_1 l0_1.length c0_1], .slice A1 l1.length c1, .slice A2 l2.length c2] ?_; (with_reducible refine (spec_l05Cut.calls k a0_0 _ _ l0_1 _ _ l1 _ _ l2 t837 true _ ?side1 ?side2 ?side3 ?side4 ?side5 ?side6 A6.out).mono ?_); (case side1 => exact zS (kO HR0_1.out HB.out)); (case side2 => exact HC0_1.out); (case side3 => exact zS (kO HR1.out HB.out)); (case side4 => exact HC1.out); (case side5 => exact zS (kO HR2.out HB.out)); (case side6 => exact HC2.out); rintro e w13 ⟨v838, rfl, ho0, hb⟩; refine ⟨_, rfl, ?_⟩; have HO839 := zA (kI ho0 (kP (zT HB.out GE835.out))); replace BK835 := zA (zB1 BK835.out hb); replace HB := zA (kQ (zT HB.out GE835.out) hb); (try clear hb); (try clear ho0); obtain ⟨hcz14_0, hcz14_1, hfz14_0, hfz14_1⟩ := zB3 BK835.out; obtain ⟨Ao15, co15, eo15⟩ := kM HO839.out; subst eo15) | (refine zO (some 29) Tryd.func68 #[.agg #[.int .i64 a0_0, .slice A0_1 l0_1.length c0_1], .slice Ao15 t837.length co15] ?_; (with_reducible refine (spec_l03Normal.calls k a0_0 _ _ l0_1 _ _ t837 t841 _ ?side1 ?side2 ?side3 ?side4 A8.out).mono ?_); (case side1 => exact zS (kO HR0_1.out HB.out)); (case side2 => exact HC0_1.out); (case side3 => exact zS (kB HO839.out).2.2); (case side4 => exact (kB HO839.out).2.1); rintro e w16 ⟨v842, rfl, ho0, hb⟩; refine ⟨_, rfl, ?_⟩; have HO843 := zA (kI (kF ho0 (kH (zP HO839.out))) (kP (zT HB.out GE835.out))); replace HO839 := zA (kE (zP HO839.out) (kC ho0) hb); replace BK835 := zA (zB1 BK835.out hb); replace HB := zA (kQ (zT HB.out GE835.out) hb); (try clear hb); (try clear ho0)))
   go_ret2
   exact ⟨_, zr, by (with_reducible repeat (first | apply zF | apply zG | apply zH)); exact kA HO843.out (fun _ hk => trivial), zT HB.out GE835.out⟩
  replace c7 := Bool.eq_false_iff.mpr c7
  subst c7
  rw [if_neg (show ¬ (false = true) by decide)] at H
  simp only [Option.some.injEq, Prod.mk.injEq] at H
  obtain ⟨rfl, rfl⟩ := H
  go_enter Tryd.func24, Tryd.ntmps24
  go_wp2_with (first | (refine zBE 3 #[.int .i64 a0_0, .slice A0_1 l0_1.length c0_1] 26 ?_; intro gb835 hg w17 hbox hb; have BK835 := zA (hbox); have GW835 := zA (zBH hg HB.out); have GE835 := zA (zBH hg HB.out); replace HB := zA (kQ (zQ HB.out) hb); clear hb hbox hg; obtain ⟨hcz18_0, hcz18_1, hfz18_0, hfz18_1⟩ := zB3 BK835.out) | (refine zO (some 14) Tryd.func52 #[.agg #[.int .i64 a0_0, .slice A0_1 l0_1.length c0_1], .slice A1 l1.length c1, .slice A2 l2.length c2] ?_; (with_reducible refine (spec_l03Code.calls k a0_0 _ _ l0_1 _ _ l1 _ _ l2 t836 _ ?side1 ?side2 ?side3 ?side4 ?side5 ?side6 A4.out).mono ?_); (case side1 => exact zS (kO HR0_1.out HB.out)); (case side2 => exact HC0_1.out); (case side3 => exact zS (kO HR1.out HB.out)); (case side4 => exact HC1.out); (case side5 => exact zS (kO HR2.out HB.out)); (case side6 => exact HC2.out); rintro e w19 ⟨rfl, hb⟩; refine ⟨_, rfl, ?_⟩; replace BK835 := zA (zB1 BK835.out hb); replace HB := zA (kQ (zT HB.out GE835.out) hb); (try clear hb); obtain ⟨hcz20_0, hcz20_1, hfz20_0, hfz20_1⟩ := zB3 BK835.out) | (refine zO (some 22) Tryd.func71 #[.agg #[.int .i64 a0_0, .slice A0_1 l0_1.length c0_1], .slice A1 l1.length c1, .slice A2 l2.length c2] ?_; (with_reducible refine (spec_l05Cut.calls k a0_0 _ _ l0_1 _ _ l1 _ _ l2 t837 false _ ?side1 ?side2 ?side3 ?side4 ?side5 ?side6 A6.out).mono ?_); (case side1 => exact zS (kO HR0_1.out HB.out)); (case side2 => exact HC0_1.out); (case side3 => exact zS (kO HR1.out HB.out)); (case side4 => exact HC1.out); (case side5 => exact zS (kO HR2.out HB.out)); (case side6 => exact HC2.out); rintro e w21 ⟨v838, rfl, ho0, hb⟩; refine ⟨_, rfl, ?_⟩; have HO839 := zA (kI ho0 (kP (zT HB.out GE835.out))); replace BK835 := zA (zB1 BK835.out hb); replace HB := zA (kQ (zT HB.out GE835.out) hb); (try clear hb); (try clear ho0)))
  go_ret2
  exact ⟨_, zr, zn, zT HB.out GE835.out⟩
 rw [if_neg c5] at H
 obtain ⟨c5b0, c5b1⟩ := zT2 c5
 simp only [Option.some.injEq, Prod.mk.injEq] at H
 obtain ⟨rfl, rfl⟩ := H
 go_enter Tryd.func24, Tryd.ntmps24
 go_wp2_with (first | (refine zBE 3 #[.int .i64 a0_0, .slice A0_1 l0_1.length c0_1] 26 ?_; intro gb835 hg w22 hbox hb; have BK835 := zA (hbox); have GW835 := zA (zBH hg HB.out); have GE835 := zA (zBH hg HB.out); replace HB := zA (kQ (zQ HB.out) hb); clear hb hbox hg; obtain ⟨hcz23_0, hcz23_1, hfz23_0, hfz23_1⟩ := zB3 BK835.out) | (refine zO (some 14) Tryd.func52 #[.agg #[.int .i64 a0_0, .slice A0_1 l0_1.length c0_1], .slice A1 l1.length c1, .slice A2 l2.length c2] ?_; (with_reducible refine (spec_l03Code.calls k a0_0 _ _ l0_1 _ _ l1 _ _ l2 t836 _ ?side1 ?side2 ?side3 ?side4 ?side5 ?side6 A4.out).mono ?_); (case side1 => exact zS (kO HR0_1.out HB.out)); (case side2 => exact HC0_1.out); (case side3 => exact zS (kO HR1.out HB.out)); (case side4 => exact HC1.out); (case side5 => exact zS (kO HR2.out HB.out)); (case side6 => exact HC2.out); rintro e w24 ⟨rfl, hb⟩; refine ⟨_, rfl, ?_⟩; replace BK835 := zA (zB1 BK835.out hb); replace HB := zA (kQ (zT HB.out GE835.out) hb); (try clear hb)))
 go_ret2
 exact ⟨_, zr, zn, zT HB.out GE835.out⟩

/-! ### slices_Equal_int64_int64: function 117 -/
def slices_Equal_int64_int64.l0 : Nat → List Int → List Int → Int → Int → Option (Bool)
 | 0, _, _, _, _ => none
 | k + 1, x0, x1, x12, x13 => if x13 < x12 then (if 0 ≤ x13 then (if x13 < (x0.length : Int) then (if x13 < (x1.length : Int) then (if (rd x0 x13) = (rd x1 x13) then (slices_Equal_int64_int64.l0 k x0 x1 x12 (wrap64 (x13 + 1))) else (some false)) else (none)) else (none)) else (none)) else (some true)
def slices_Equal_int64_int64.f (k : Nat) (l0 : List Int) (l1 : List Int) : Option (Bool) := if (l0.length : Int) = (l1.length : Int) then (slices_Equal_int64_int64.l0 k l0 l1 (l0.length : Int) 0) else (some false)

set_option maxHeartbeats 8000000 in
set_option maxRecDepth 100000 in
theorem slices_Equal_int64_int64.calls (k : Nat) (A0 : Option Addr) (c0 : Nat) (l0 : List Int) (A1 : Option Addr) (c1 : Nat) (l1 : List Int) (r : Bool) (w : World) (hr0 : Kd.C (Kd.int .i64) w A0 l0.length l0) (hc0 : l0.length ≤ c0) (hr1 : Kd.C (Kd.int .i64) w A1 l1.length l1) (hc1 : l1.length ≤ c1) (h : slices_Equal_int64_int64.f k l0 l1 = some r) :
  Calls Tryd.prog 117 #[.slice A0 l0.length c0, .slice A1 l1.length c1] w fun e w' => e = .returned (.bool r) ∧ Drawn0 w w' := by
 have HR0 := zA hr0
 have HC0 := zA hc0
 clear hr0 hc0
 have HR1 := zA hr1
 have HC1 := zA hc1
 clear hr1 hc1
 have H := h
 unfold slices_Equal_int64_int64.f at H
 clear h
 by_cases c3 : (l0.length : Int) = (l1.length : Int)
 ·rw [if_pos c3] at H
  obtain ⟨c3b0, c3b1⟩ := zT1 c3
  have c3b2 : (l0.length == l1.length) = true := by first | simpa using c3 | (simp at c3 ⊢; omega)
  clear c3
  have H' := zA H
  clear H
  go_enter Tryd.func117, Tryd.ntmps117
  go_wp2
  repeat (go_quiet (fail); try go_wp2)
  go_loopg [13] k (fun kq v13 w' => ∃ (x13_1 : Int), v13 = .int .i64 x13_1 ∧ Aside0 (slices_Equal_int64_int64.l0 kq l0 l1 (l0.length : Int) x13_1 = some r) ∧ Aside0 (kq ≤ k) ∧ Drawn0 w w')
  case atStart => exact ⟨(0), zs, H', ⟨Nat.le_refl _⟩, by repeat (first | exact Drawn0.refl _ | apply Drawn0.step)⟩
  case round =>
   clear H'
   try clear c1
   try clear c3
   obtain ⟨x13_1, rfl, HA, HK1, ⟨m1, rfl⟩⟩ := hrel
   cases gk with
   | zero => exact absurd HA.out (by simp [slices_Equal_int64_int64.l0])
   | succ k1 =>
    have H := HA.out
    clear HA
    simp only [slices_Equal_int64_int64.l0] at H
    by_cases c4 : x13_1 < (l0.length : Int)
    ·rw [if_pos c4] at H
     have c4b0 : decide (x13_1 < (l0.length : Int)) = true := decide_eq_true c4
     clear c4
     by_cases c5 : 0 ≤ x13_1
     ·rw [if_pos c5] at H
      have c5b0 : decide (0 ≤ x13_1) = true := decide_eq_true c5
      clear c5
      by_cases c6 : x13_1 < (l0.length : Int)
      ·rw [if_pos c6] at H
       have c6b0 : decide (x13_1 < (l0.length : Int)) = true := decide_eq_true c6
       clear c6
       by_cases c7 : x13_1 < (l1.length : Int)
       ·rw [if_pos c7] at H
        have c7b0 : decide (x13_1 < (l1.length : Int)) = true := decide_eq_true c7
        clear c7
        by_cases c8 : (rd l0 x13_1) = (rd l1 x13_1)
        ·rw [if_pos c8] at H
         obtain ⟨c8b0, c8b1⟩ := zT1 c8
         clear c8
         have H' := zA H
         clear H
         have p865 : 0 ≤ (x13_1 : Int) := zd
         have q865 : x13_1 < (l0.length : Int) := zd
         obtain ⟨ad865, e865, hx865_0⟩ := Kd.at_int HR0.out x13_1 p865 q865
         cases e865
         replace p865 := eq_true p865
         replace q865 := eq_true q865
         have p866 : 0 ≤ (x13_1 : Int) := zd
         have q866 : x13_1 < (l1.length : Int) := zd
         obtain ⟨ad866, e866, hx866_0⟩ := Kd.at_int HR1.out x13_1 p866 q866
         cases e866
         replace p866 := eq_true p866
         replace q866 := eq_true q866
         go_wp2
         repeat (go_quiet (fail); try go_wp2)
         go_roundg k1
         case measure => have := HK1.out; omega
         case rel => exact ⟨(wrap64 (x13_1 + 1)), zs, H', ⟨by have := HK1.out; omega⟩, by repeat (first | exact Drawn0.refl _ | apply Drawn0.step)⟩
        rw [if_neg c8] at H
        obtain ⟨c8b0, c8b1⟩ := zT2 c8
        obtain rfl := Option.some.inj H
        have p865 : 0 ≤ (x13_1 : Int) := zd
        have q865 : x13_1 < (l0.length : Int) := zd
        obtain ⟨ad865, e865, hx865_0⟩ := Kd.at_int HR0.out x13_1 p865 q865
        cases e865
        replace p865 := eq_true p865
        replace q865 := eq_true q865
        have p866 : 0 ≤ (x13_1 : Int) := zd
        have q866 : x13_1 < (l1.length : Int) := zd
        obtain ⟨ad866, e866, hx866_0⟩ := Kd.at_int HR1.out x13_1 p866 q866
        cases e866
        replace p866 := eq_true p866
        replace q866 := eq_true q866
        go_wp2
        repeat (go_quiet (fail); try go_wp2)
        go_ret
        exact ⟨zs, by repeat (first | exact Drawn0.refl _ | apply Drawn0.step)⟩
       rw [if_neg c7] at H
       exact absurd H (by simp)
      rw [if_neg c6] at H
      exact absurd H (by simp)
     rw [if_neg c5] at H
     exact absurd H (by simp)
    rw [if_neg c4] at H
    have c4b0 : decide (x13_1 < (l0.length : Int)) = false := decide_eq_false c4
    clear c4
    obtain rfl := Option.some.inj H
    go_wp2
    repeat (go_quiet (fail); try go_wp2)
    go_ret
    exact ⟨zs, by repeat (first | exact Drawn0.refl _ | apply Drawn0.step)⟩
 rw [if_neg c3] at H
 obtain ⟨c3b0, c3b1⟩ := zT2 c3
 have c3b2 : (l0.length == l1.length) = false := by first | simpa using c3 | (simp at c3 ⊢; omega)
 obtain rfl := Option.some.inj H
 go_enter Tryd.func117, Tryd.ntmps117
 go_wp2
 repeat (go_quiet (fail); try go_wp2)
 go_ret
 exact ⟨zs, by repeat (first | exact Drawn0.refl _ | apply Drawn0.step)⟩

/-! ### impl_ties_same: function 74 -/
def impl_ties_same.f (k : Nat) (l0 : List Int) (l1 : List Int) (l2 : List Int) : Option (Bool) := (impl_ties_normal.f k l0 l1).bind fun t867 => ((impl_ties_normal.f k l0 l2).bind fun t870 => ((slices_Equal_int64_int64.f k t867 t870).bind fun t873 => (some t873)))

set_option maxHeartbeats 8000000 in
set_option maxRecDepth 100000 in
theorem impl_ties_same.calls (k : Nat) (A0 : Option Addr) (c0 : Nat) (l0 : List Int) (A1 : Option Addr) (c1 : Nat) (l1 : List Int) (A2 : Option Addr) (c2 : Nat) (l2 : List Int) (r : Bool) (w : World) (hr0 : Kd.C (Kd.int .i64) w A0 l0.length l0) (hc0 : l0.length ≤ c0) (hr1 : Kd.C (Kd.int .i64) w A1 l1.length l1) (hc1 : l1.length ≤ c1) (hr2 : Kd.C (Kd.int .i64) w A2 l2.length l2) (hc2 : l2.length ≤ c2) (hT : TabW w) (h : impl_ties_same.f k l0 l1 l2 = some r) :
  Calls Tryd.prog 74 #[.slice A0 l0.length c0, .slice A1 l1.length c1, .slice A2 l2.length c2] w fun e w' => e = .returned (.bool r) ∧ Below w.heap.size w w' := by
 have HT := zA hT
 clear hT
 have HR0 := zA hr0
 have HC0 := zA hc0
 clear hr0 hc0
 have HR1 := zA hr1
 have HC1 := zA hc1
 clear hr1 hc1
 have HR2 := zA hr2
 have HC2 := zA hc2
 clear hr2 hc2
 have HB := zA (kW w.heap.size w)
 have H := h
 unfold impl_ties_same.f at H
 clear h
 obtain ⟨t867, A4, H⟩ := zb H
 try dsimp only at H
 obtain ⟨t870, A5, H⟩ := zb H
 try dsimp only at H
 obtain ⟨t873, A6, H⟩ := zb H
 try dsimp only at H
 obtain rfl := Option.some.inj H
 go_enter Tryd.func74, Tryd.ntmps74
 go_wp2_with (first | (refine zO (some 9) Tryd.func56 #[.slice A0 l0.length c0, .slice A1 l1.length c1] ?_; (with_reducible refine (impl_ties_normal.calls k _ _ l0 (fun k_ => k_ < w.heap.size) _ _ l1 t867 _ ?side1 ?side2 ?side3 ?side4 A4.out).mono ?_); (case side1 => exact zS HR0.out); (case side2 => exact HC0.out); (case side3 => exact Kd.V_mk HC1.out (Kd.F_below (Kd.C_F (Kd.heap_int .i64) HR1.out) (zQ HB.out))); (case side4 => exact TabW.below HT.out (zQ HB.out)); rintro e w7 ⟨v868, rfl, ho0, hb⟩; refine ⟨_, rfl, ?_⟩; have HO869 := zA (kI (kA (ok' := fun k_ => True) ho0 (fun _ hk_ => trivial)) (kP (zQ HB.out))); replace HB := zA (kQ (zQ HB.out) hb); (try clear hb); (try clear ho0)) | (refine zO (some 12) Tryd.func56 #[.slice A0 l0.length c0, .slice A2 l2.length c2] ?_; (with_reducible refine (impl_ties_normal.calls k _ _ l0 (fun k_ => k_ < w.heap.size) _ _ l2 t870 _ ?side1 ?side2 ?side3 ?side4 A5.out).mono ?_); (case side1 => exact zS (kO HR0.out HB.out)); (case side2 => exact HC0.out); (case side3 => exact Kd.V_mk HC2.out (Kd.F_below (Kd.C_F (Kd.heap_int .i64) HR2.out) (zQ HB.out))); (case side4 => exact TabW.below HT.out (zQ HB.out)); rintro e w8 ⟨v871, rfl, ho0, hb⟩; refine ⟨_, rfl, ?_⟩; have HO872 := zA (kI (kF (kA (ok' := fun k_ => True) ho0 (fun _ hk_ => trivial)) (kH (zP HO869.out))) (kP (zQ HB.out))); replace HO869 := zA (kE (zP HO869.out) (kC ho0) hb); replace HB := zA (kQ (zQ HB.out) hb); (try clear hb); (try clear ho0); obtain ⟨Ao9, co9, eo9⟩ := kM HO869.out; subst eo9; obtain ⟨Ao10, co10, eo10⟩ := kM HO872.out; subst eo10) | (refine zO (some 13) Tryd.func117 #[.slice Ao9 t867.length co9, .slice Ao10 t870.length co10] ?_; (with_reducible refine (slices_Equal_int64_int64.calls k _ _ t867 _ _ t870 t873 _ ?side1 ?side2 ?side3 ?side4 A6.out).mono ?_); (case side1 => exact zS (kB HO869.out).2.2); (case side2 => exact (kB HO869.out).2.1); (case side3 => exact zS (kB HO872.out).2.2); (case side4 => exact (kB HO872.out).2.1); rintro e w' ⟨rfl, ⟨nd, rfl⟩⟩; refine ⟨_, rfl, ?_⟩))
 go_ret
 exact ⟨zr, zQ HB.out⟩

/-! ### impl_AreSameTrace: function 26 -/
def impl_AreSameTrace.f (k : Nat) (a0_0 : Int) (l0_1 : List Int) (l1 : List Int) (l2 : List Int) : Option (Bool × Int) := (impl_checkWords.f k a0_0 l0_1 (([l1, l2] : List (List Int)))).bind fun t878 => (if t878 = 0 then ((impl_Alphabet_ties.f a0_0 l0_1).bind fun t879 => ((impl_ties_same.f k t879 l1 l2).bind fun t882 => (some (t882, 0)))) else (some (false, t878)))

set_option maxHeartbeats 8000000 in
set_option maxRecDepth 100000 in
theorem impl_AreSameTrace.calls (k : Nat) (a0_0 : Int) (P0_1_ : Nat → Prop) (A0_1 : Option Addr) (c0_1 : Nat) (l0_1 : List Int) (P1_ : Nat → Prop) (A1 : Option Addr) (c1 : Nat) (l1 : List Int) (P2_ : Nat → Prop) (A2 : Option Addr) (c2 : Nat) (l2 : List Int) (r1 : Bool) (r2 : Int) (w : World) (hs0_1 : Kd.V (Kd.int .i64) 2 w w.heap.size (fun k_ => P0_1_ k_) (.slice A0_1 l0_1.length c0_1) l0_1) (hs1 : Kd.V (Kd.int .i64) 2 w w.heap.size (fun k_ => P1_ k_) (.slice A1 l1.length c1) l1) (hs2 : Kd.V (Kd.int .i64) 2 w w.heap.size (fun k_ => P2_ k_) (.slice A2 l2.length c2) l2) (hT : TabW w) (h : impl_AreSameTrace.f k a0_0 l0_1 l1 l2 = some (r1, r2)) :
  Calls Tryd.prog 26 #[.agg #[.int .i64 a0_0, .slice A0_1 l0_1.length c0_1], .slice A1 l1.length c1, .slice A2 l2.length c2] w fun e w' => e = .returned (.tuple #[.bool r1, .int .i64 r2]) ∧ Below w.heap.size w w' := by
 have hu26 := Tryd.underlying26
 have HT := zA hT
 clear hT
 have HO0_1 := zA (show Kd.V (Kd.int .i64) 2 w w.heap.size (fun k_ => ((P0_1_ k_ ∨ P1_ k_ ∨ P2_ k_) ∨ w.heap.size ≤ k_)) (.slice A0_1 l0_1.length c0_1) l0_1 from kN hs0_1 (fun k_ hk => .inl (.inl hk)))
 have HO1 := zA (show Kd.V (Kd.int .i64) 2 w w.heap.size (fun k_ => ((P0_1_ k_ ∨ P1_ k_ ∨ P2_ k_) ∨ w.heap.size ≤ k_)) (.slice A1 l1.length c1) l1 from kN hs1 (fun k_ hk => .inl (.inr (.inl hk))))
 have HO2 := zA (show Kd.V (Kd.int .i64) 2 w w.heap.size (fun k_ => ((P0_1_ k_ ∨ P1_ k_ ∨ P2_ k_) ∨ w.heap.size ≤ k_)) (.slice A2 l2.length c2) l2 from kN hs2 (fun k_ hk => .inl (.inr (.inr hk))))
 have HB := zA (kW w.heap.size w)
 have H := h
 unfold impl_AreSameTrace.f at H
 clear h
 obtain ⟨y875, hy875⟩ : ∃ y_ : List (List Int), y_ = (([l1, l2] : List (List Int))) := ⟨_, rfl⟩
 replace H : ((impl_checkWords.f k a0_0 l0_1 y875).bind fun t878 => (if t878 = 0 then ((impl_Alphabet_ties.f a0_0 l0_1).bind fun t879 => ((impl_ties_same.f k t879 l1 l2).bind fun t882 => (some (t882, 0)))) else (some (false, t878)))) = some (r1, r2) := zy hy875 H
 have Ny875 := zA hy875
 clear hy875
 obtain ⟨t878, A4, H⟩ := zb H
 try dsimp only at H
 by_cases c5 : t878 = 0
 ·rw [if_pos c5] at H
  obtain ⟨c5b0, c5b1⟩ := zT1 c5
  clear c5
  obtain ⟨t879, A6, H⟩ := zb H
  try dsimp only at H
  obtain ⟨t882, A7, H⟩ := zb H
  try dsimp only at H
  simp only [Option.some.injEq, Prod.mk.injEq] at H
  obtain ⟨rfl, rfl⟩ := H
  go_enter Tryd.func26, Tryd.ntmps26
  go_wp2_with (first | (refine zBE 3 #[.int .i64 a0_0, .slice A0_1 l0_1.length c0_1] 26 ?_; intro gb874 hg w8 hbox hb; replace HO0_1 := zA (kG (jD (zPV HO0_1.out) gb874 (Nat.le_of_eq hg.symm)) hb); replace HO1 := zA (kG (jD (zPV HO1.out) gb874 (Nat.le_of_eq hg.symm)) hb); replace HO2 := zA (kG (jD (zPV HO2.out) gb874 (Nat.le_of_eq hg.symm)) hb); have BK874 := zA (hbox); have GW874 := zA (zBH hg HB.out); have GE874 := zA (zBH hg HB.out); replace HB := zA (kQ (zQ HB.out) hb); clear hb hbox hg; obtain ⟨hcz9_0, hcz9_1, hfz9_0, hfz9_1⟩ := zB3 BK874.out) | ((with_reducible refine kS (N := 12) rfl ?_); refine Kd.N_lit (Kd.slice 2 (Kd.int .i64)) _ 24 ?hg (N' := 12) ?hd (xs := ([l1, l2] : List (List Int))) (inner := [.slice A1 l1.length c1, .slice A2 l2.length c2]) (ok := (fun k_ => ((P0_1_ k_ ∨ P1_ k_ ∨ P2_ k_) ∨ w.heap.size ≤ k_) ∧ k_ ≠ gb874)) (okp := (fun k_ => ((P0_1_ k_ ∨ P1_ k_ ∨ P2_ k_) ∨ w.heap.size ≤ k_) ∧ k_ ≠ gb874)) ?hr ?hp (fun _ hk => hk) ((show ∀ k_ : Nat, (_ : Nat) ≤ k_ → (fun k_ => ((P0_1_ k_ ∨ P1_ k_ ∨ P2_ k_) ∨ w.heap.size ≤ k_) ∧ k_ ≠ gb874) k_ from fun k_ hk => ⟨(.inr (Nat.le_trans (kP (zT HB.out GE874.out)) hk)), jE (g := gb874) (o := .cells #[.int .i64 a0_0, .slice A0_1 l0_1.length c0_1] 26 (0, 0)) (zR BK874.out) k_ hk⟩) _ (Nat.le_refl _)) (kW _ _) (Nat.le_refl _) (by simp) ?_; (case hd => rfl); (case hg => rfl); (case hr => first | (go_simp; done) | (go_simp; rfl)); (case hp => exact (Reps.one (show Kd.FK (Kd.slice 2 (Kd.int .i64)) _ _ l1 [.slice A1 l1.length c1] from (zFK (kN (ok' := (fun k_ => ((P0_1_ k_ ∨ P1_ k_ ∨ P2_ k_) ∨ w.heap.size ≤ k_) ∧ k_ ≠ gb874)) (HO1.out) (fun k_ hk => ⟨hk.1, hk.2⟩)))) (Reps.one (show Kd.FK (Kd.slice 2 (Kd.int .i64)) _ _ l2 [.slice A2 l2.length c2] from (zFK (kN (ok' := (fun k_ => ((P0_1_ k_ ∨ P1_ k_ ∨ P2_ k_) ∨ w.heap.size ≤ k_) ∧ k_ ≠ gb874)) (HO2.out) (fun k_ hk => ⟨hk.1, hk.2⟩)))) (Reps.none _ _)))); intro v876 w10 ho11 hb hg_ hnew_; clear hg_ hnew_; (first | rw [← Ny875.out] at ho11 | (simp only [Int.reduceToNat] at ho11; rw [← Ny875.out] at ho11)); replace HO0_1 := zA (kK (zPV HO0_1.out) (Kd.N_base ho11) hb); replace HO1 := zA (kK (zPV HO1.out) (Kd.N_base ho11) hb); replace HO2 := zA (kK (zPV HO2.out) (Kd.N_base ho11) hb); have HO877 := zA (jN ho11 (kP (zT HB.out GE874.out))); replace BK874 := zA (zB1 BK874.out hb); replace HB := zA (kQ (zT HB.out GE874.out) hb); clear hb ho11; obtain ⟨Ao12, co12, eo12⟩ := Kd.N_slice HO877.out; subst eo12) | (refine zO (some 13) Tryd.func49 #[.agg #[.int .i64 a0_0, .slice A0_1 l0_1.length c0_1], .slice Ao12 y875.length co12] ?_; (with_reducible refine (impl_checkWords.calls k a0_0 _ _ l0_1 _ _ y875 t878 _ ?side1 ?side2 ?side3 ?side4 ?side5 A4.out).mono ?_); (case side1 => exact zS (kJ HO0_1.out).2.2); (case side2 => exact (kJ HO0_1.out).2.1); (case side3 => exact zS (Kd.N_reads' HO877.out).2.2); (case side4 => exact (Kd.N_reads' HO877.out).2.1); (case side5 => exact TabW.below HT.out (zT HB.out GE874.out)); rintro e w13 ⟨rfl, hb⟩; refine ⟨_, rfl, ?_⟩; replace HO0_1 := zA (kG (zPV HO0_1.out) hb); replace HO1 := zA (kG (zPV HO1.out) hb); replace HO2 := zA (kG (zPV HO2.out) hb); replace HO877 := zA (kZ (zPN HO877.out) hb); replace BK874 := zA (zB1 BK874.out hb); replace HB := zA (kQ (zT HB.out GE874.out) hb); (try clear hb); obtain ⟨hcz14_0, hcz14_1, hfz14_0, hfz14_1⟩ := zB3 BK874.out) | (refine zO (some 18) Tryd.func50 #[.agg #[.int .i64 a0_0, .slice A0_1 l0_1.length c0_1]] ?_; (with_reducible refine (impl_Alphabet_ties.calls a0_0 (fun k_ => ((((P0_1_ k_ ∨ P1_ k_ ∨ P2_ k_) ∨ w.heap.size ≤ k_) ∧ k_ ≠ gb874) ∧ some k_ ≠ (.slice Ao12 y875.length co12 : Value).ownBlock)) _ _ l0_1 t879 _ ?side1 A6.out).mono ?_); (case side1 => exact HO0_1.out); rintro e w15 ⟨v880, rfl, ho0, hb⟩; refine ⟨_, rfl, ?_⟩; replace HO0_1 := zA (kG (zPV HO0_1.out) hb); replace HO1 := zA (kG (zPV HO1.out) hb); replace HO2 := zA (kG (zPV HO2.out) hb); have HO881 := zA (jM (kN (ok' := fun k_ => ((P0_1_ k_ ∨ P1_ k_ ∨ P2_ k_) ∨ w.heap.size ≤ k_) ∧ some k_ ≠ (.slice Ao12 y875.length co12 : Value).ownBlock ∧ k_ ≠ gb874) ho0 (fun k_ hk_ => ⟨Or.elim hk_ (fun hs_ => hs_.1.1) (fun hn_ => (.inr (Nat.le_trans (kP (zT HB.out GE874.out)) hn_))), Or.elim hk_ (fun hs_ => hs_.2) (fun hn_ => (jF (jA (zPN HO877.out)) k_ hn_)), Or.elim hk_ (fun hs_ => hs_.1.2) (fun hn_ => (jE (g := gb874) (o := .cells #[.int .i64 a0_0, .slice A0_1 l0_1.length c0_1] 26 (0, 0)) (zR BK874.out) k_ hn_))⟩)) (kP (zT HB.out GE874.out))); replace HO877 := zA (kZ (zPN HO877.out) hb); replace BK874 := zA (zB1 BK874.out hb); replace HB := zA (kQ (zT HB.out GE874.out) hb); (try clear hb); (try clear ho0); obtain ⟨Ao16, co16, eo16⟩ := Kd.V_slice HO881.out; subst eo16) | (refine zO (some 21) Tryd.func74 #[.slice Ao16 t879.length co16, .slice A1 l1.length c1, .slice A2 l2.length c2] ?_; (with_reducible refine (impl_ties_same.calls k _ _ t879 _ _ l1 _ _ l2 t882 _ ?side1 ?side2 ?side3 ?side4 ?side5 ?side6 ?side7 A7.out).mono ?_); (case side1 => exact zS (kJ HO881.out).2.2); (case side2 => exact (kJ HO881.out).2.1); (case side3 => exact zS (kJ HO1.out).2.2); (case side4 => exact (kJ HO1.out).2.1); (case side5 => exact zS (kJ HO2.out).2.2); (case side6 => exact (kJ HO2.out).2.1); (case side7 => exact TabW.below HT.out (zT HB.out GE874.out)); rintro e w17 ⟨rfl, hb⟩; refine ⟨_, rfl, ?_⟩; replace HO0_1 := zA (kG (zPV HO0_1.out) hb); replace HO1 := zA (kG (zPV HO1.out) hb); replace HO2 := zA (kG (zPV HO2.out) hb); replace HO877 := zA (kZ (zPN HO877.out) hb); replace HO881 := zA (kG (zPV HO881.out) hb); replace BK874 := zA (zB1 BK874.out hb); replace HB := zA (kQ (zT HB.out GE874.out) hb); (try clear hb)))
  go_ret2
  exact ⟨zr, zT HB.out GE874.out⟩
 rw [if_neg c5] at H
 obtain ⟨c5b0, c5b1⟩ := zT2 c5
 simp only [Option.some.injEq, Prod.mk.injEq] at H
 obtain ⟨rfl, rfl⟩ := H
 go_enter Tryd.func26, Tryd.ntmps26
 go_wp2_with (first | (refine zBE 3 #[.int .i64 a0_0, .slice A0_1 l0_1.length c0_1] 26 ?_; intro gb874 hg w18 hbox hb; replace HO0_1 := zA (kG (jD (zPV HO0_1.out) gb874 (Nat.le_of_eq hg.symm)) hb); replace HO1 := zA (kG (jD (zPV HO1.out) gb874 (Nat.le_of_eq hg.symm)) hb); replace HO2 := zA (kG (jD (zPV HO2.out) gb874 (Nat.le_of_eq hg.symm)) hb); have BK874 := zA (hbox); have GW874 := zA (zBH hg HB.out); have GE874 := zA (zBH hg HB.out); replace HB := zA (kQ (zQ HB.out) hb); clear hb hbox hg; obtain ⟨hcz19_0, hcz19_1, hfz19_0, hfz19_1⟩ := zB3 BK874.out) | ((with_reducible refine kS (N := 12) rfl ?_); refine Kd.N_lit (Kd.slice 2 (Kd.int .i64)) _ 24 ?hg (N' := 12) ?hd (xs := ([l1, l2] : List (List Int))) (inner := [.slice A1 l1.length c1, .slice A2 l2.length c2]) (ok := (fun k_ => ((P0_1_ k_ ∨ P1_ k_ ∨ P2_ k_) ∨ w.heap.size ≤ k_) ∧ k_ ≠ gb874)) (okp := (fun k_ => ((P0_1_ k_ ∨ P1_ k_ ∨ P2_ k_) ∨ w.heap.size ≤ k_) ∧ k_ ≠ gb874)) ?hr ?hp (fun _ hk => hk) ((show ∀ k_ : Nat, (_ : Nat) ≤ k_ → (fun k_ => ((P0_1_ k_ ∨ P1_ k_ ∨ P2_ k_) ∨ w.heap.size ≤ k_) ∧ k_ ≠ gb874) k_ from fun k_ hk => ⟨(.inr (Nat.le_trans (kP (zT HB.out GE874.out)) hk)), jE (g := gb874) (o := .cells #[.int .i64 a0_0, .slice A0_1 l0_1.length c0_1] 26 (0, 0)) (zR BK874.out) k_ hk⟩) _ (Nat.le_refl _)) (kW _ _) (Nat.le_refl _) (by simp) ?_; (case hd => rfl); (case hg => rfl); (case hr => first | (go_simp; done) | (go_simp; rfl)); (case hp => exact (Reps.one (show Kd.FK (Kd.slice 2 (Kd.int .i64)) _ _ l1 [.slice A1 l1.length c1] from (zFK (kN (ok' := (fun k_ => ((P0_1_ k_ ∨ P1_ k_ ∨ P2_ k_) ∨ w.heap.size ≤ k_) ∧ k_ ≠ gb874)) (HO1.out) (fun k_ hk => ⟨hk.1, hk.2⟩)))) (Reps.one (show Kd.FK (Kd.slice 2 (Kd.int .i64)) _ _ l2 [.slice A2 l2.length c2] from (zFK (kN (ok' := (fun k_ => ((P0_1_ k_ ∨ P1_ k_ ∨ P2_ k_) ∨ w.heap.size ≤ k_) ∧ k_ ≠ gb874)) (HO2.out) (fun k_ hk => ⟨hk.1, hk.2⟩)))) (Reps.none _ _)))); intro v876 w20 ho21 hb hg_ hnew_; clear hg_ hnew_; (first | rw [← Ny875.out] at ho21 | (simp only [Int.reduceToNat] at ho21; rw [← Ny875.out] at ho21)); replace HO0_1 := zA (kK (zPV HO0_1.out) (Kd.N_base ho21) hb); replace HO1 := zA (kK (zPV HO1.out) (Kd.N_base ho21) hb); replace HO2 := zA (kK (zPV HO2.out) (Kd.N_base ho21) hb); have HO877 := zA (jN ho21 (kP (zT HB.out GE874.out))); replace BK874 := zA (zB1 BK874.out hb); replace HB := zA (kQ (zT HB.out GE874.out) hb); clear hb ho21; obtain ⟨Ao22, co22, eo22⟩ := Kd.N_slice HO877.out; subst eo22) | (refine zO (some 13) Tryd.func49 #[.agg #[.int .i64 a0_0, .slice A0_1 l0_1.length c0_1], .slice Ao22 y875.length co22] ?_; (with_reducible refine (impl_checkWords.calls k a0_0 _ _ l0_1 _ _ y875 t878 _ ?side1 ?side2 ?side3 ?side4 ?side5 A4.out).mono ?_); (case side1 => exact zS (kJ HO0_1.out).2.2); (case side2 => exact (kJ HO0_1.out).2.1); (case side3 => exact zS (Kd.N_reads' HO877.out).2.2); (case side4 => exact (Kd.N_reads' HO877.out).2.1); (case side5 => exact TabW.below HT.out (zT HB.out GE874.out)); rintro e w23 ⟨rfl, hb⟩; refine ⟨_, rfl, ?_⟩; replace HO0_1 := zA (kG (zPV HO0_1.out) hb); replace HO1 := zA (kG (zPV HO1.out) hb); replace HO2 := zA (kG (zPV HO2.out) hb); replace HO877 := zA (kZ (zPN HO877.out) hb); replace BK874 := zA (zB1 BK874.out hb); replace HB := zA (kQ (zT HB.out GE874.out) hb); (try clear hb)))
 go_ret2
 exact ⟨zr, zT HB.out GE874.out⟩

end Go.Proofs.YtkiacoilecdepaaDoor.PAll
