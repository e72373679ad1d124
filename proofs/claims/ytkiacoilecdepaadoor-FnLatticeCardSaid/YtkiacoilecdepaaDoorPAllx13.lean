import Derived.Test.YtkiacoilecdepaaDoorPAllx0
import Derived.Test.YtkiacoilecdepaaDoorPAllx1
import Derived.Test.YtkiacoilecdepaaDoorPAllx3
import Derived.Test.YtkiacoilecdepaaDoorPAllx7
import Derived.Test.YtkiacoilecdepaaDoorPAllx12
namespace Go.Proofs.YtkiacoilecdepaaDoor.PAll
open Go.RowKit Go.Proofs.YtkiacoilecdepaaDoor.T Go.Proofs.YtkiacoilecdepaaDoorW.PrintWords Go.Proofs.YtkiacoilecdepaaDoorW.PrintLast Go.Proofs.YtkiacoilecdepaaDoorW.PrintMore
attribute [local go_sem] max2_int min2_int max_two min_two max_three min_three max_four min_four   -- for this text's walks alone
set_option linter.unusedVariables false
set_option linter.unusedSimpArgs false
mutual
def spec_l05Two.l0 : Nat → Int → List Int → List Int → List Int → Int → List Int → Int → Int → Int → List Int → Option (List Int × Int × Int × Int × List Int × List Int × List Int)
 | 0, _, _, _, _, _, _, _, _, _, _ => none
 | k + 1, x2, x12, x13, x14, x15, x915000, x915001, x915002, x923000, x923001 => if x15 < (x12.length : Int) then ((spec_l01Next.f x915000 x915001 x915002 6).bind fun bt933 => (if bt933.1 = 0 then (if 0 ≤ x15 then (if x13.length < 17592186044416 then (spec_l05Two.l0 k x2 x12 (x13 ++ [rd x12 x15]) x14 (wrap64 (x15 + 1)) x915000 bt933.2.1 bt933.2.2 x923000 x923001) else (none)) else (none)) else (if bt933.1 = 1 then (if 0 ≤ x15 then (if x14.length < 17592186044416 then (spec_l05Two.l0 k x2 x12 x13 (x14 ++ [rd x12 x15]) (wrap64 (x15 + 1)) x915000 bt933.2.1 bt933.2.2 x923000 x923001) else (none)) else (none)) else (if 0 ≤ x15 then (if x13.length < 17592186044416 then (if x14.length < 17592186044416 then (spec_l05Two.l0 k x2 x12 (x13 ++ [rd x12 x15]) (x14 ++ [rd x12 x15]) (wrap64 (x15 + 1)) x915000 bt933.2.1 bt933.2.2 x923000 x923001) else (none)) else (none)) else (none))))) else ((spec_l01Next.f x915000 x915001 x915002 5).bind fun bt952 => (if bt952.1 = 0 then ((spec_l03Spoil.f k x915000 bt952.2.1 bt952.2.2 x923000 x923001 x2).bind fun bt955 => (spec_l05Two.j1 k x13 bt955.1 x915000 bt955.2.1 bt955.2.2 x923000 x923001)) else (spec_l05Two.j1 k x13 x14 x915000 bt952.2.1 bt952.2.2 x923000 x923001)))
def spec_l05Two.j1 : Nat → List Int → List Int → List Int → Int → Int → Int → List Int → Option (List Int × Int × Int × Int × List Int × List Int × List Int)
 | 0, _, _, _, _, _, _, _ => none
 | k + 1, x13, x14, x915000, x915001, x915002, x923000, x923001 => (spec_l03Is.f k x923000 x923001 x14).bind fun t960 => (if t960 = true then ((spec_l03Shuffle.f k x915000 x915001 x915002 x923000 x923001 x14).bind fun bt961 => ((spec_l03Shuffle.f k x915000 bt961.2.1 bt961.2.2 x923000 x923001 x13).bind fun bt966 => (some (x915000, bt966.2.1, bt966.2.2, x923000, x923001, bt966.1, bt961.1)))) else ((spec_l03Shuffle.f k x915000 x915001 x915002 x923000 x923001 x13).bind fun bt971 => (some (x915000, bt971.2.1, bt971.2.2, x923000, x923001, bt971.1, x14))))
end
def spec_l05Two.f (k : Nat) (l0 : List Int) (a1 : Int) (a2 : Int) : Option (List Int × Int × Int × Int × List Int × List Int × List Int) := (spec_l03Pair.f k l0 a1 a2).bind fun bt911 => ((spec_l03Is.f k bt911.2.2.2.1 bt911.2.2.2.2.1 bt911.2.2.2.2.2).bind fun t923 => (if t923 = true then (spec_l05Two.l0 k a2 bt911.2.2.2.2.2 (([] : List Int)) (([] : List Int)) 0 bt911.1 bt911.2.1 bt911.2.2.1 bt911.2.2.2.1 bt911.2.2.2.2.1) else (some (bt911.1, bt911.2.1, bt911.2.2.1, bt911.2.2.2.1, bt911.2.2.2.2.1, bt911.2.2.2.2.2, (([0] : List Int))))))
def spec_l05Two.T3 : Bool × List (List Nat × List Nat) := (true, [([], []), ([], []), ([], []), ([], []), ([0, 0], [0]), ([1, 4, 0, 1, 4], [1]), ([2, 5, 0, 1, 2, 4, 5], [2]), ([3, 6, 0, 1, 2, 3, 4, 5, 6], [3])])
def spec_l05Two.B3 : List Nat := [0, 0, 0, 0, 1, 19, 55, 127]
theorem spec_l05Two.tab3 : rtab .any (opsOf Tryd.f75 3) = spec_l05Two.T3 := by kernel_rfl
theorem spec_l05Two.bits3 : waitsOk spec_l05Two.T3.2 spec_l05Two.B3 = true := by kernel_rfl
def spec_l05Two.T19 : Bool × List (List Nat × List Nat) := (true, [([], []), ([], []), ([], []), ([], []), ([], []), ([2, 3, 4], [2, 3, 4]), ([], []), ([0, 5, 0], [0]), ([1, 7, 0, 1, 7], [1]), ([5, 8, 0, 1, 2, 3, 4, 5, 7, 8], [5]), ([6, 9, 0, 1, 2, 3, 4, 5, 6, 7, 8, 9], [6])])
def spec_l05Two.B19 : List Nat := [0, 0, 0, 0, 0, 28, 0, 61, 191, 447, 1023]
theorem spec_l05Two.tab19 : rtab .any (opsOf Tryd.f75 19) = spec_l05Two.T19 := by kernel_rfl
theorem spec_l05Two.bits19 : waitsOk spec_l05Two.T19.2 spec_l05Two.B19 = true := by kernel_rfl
set_option maxHeartbeats 8000000 in
set_option maxRecDepth 100000 in
theorem spec_l05Two.calls (k : Nat) (A0 : Option Addr) (c0 : Nat) (l0 : List Int) (a1 : Int) (a2 : Int) (r1 : List Int) (r2 : Int) (r3 : Int) (r4 : Int) (r5 : List Int) (r6 : List Int) (r7 : List Int) (w0 w : World) (hB : Below w0.heap.size w0 w) (hr0 : Kd.C (Kd.int .u8) w0 A0 l0.length l0) (hc0 : l0.length ≤ c0) (h : spec_l05Two.f k l0 a1 a2 = some (r1, r2, r3, r4, r5, r6, r7)) :
  Calls Tryd.prog 75 #[.slice A0 l0.length c0, .int .i64 a1, .int .i64 a2] w fun e w' => ∃ v1_ v2_ v3_ : Value, ∃ g_ : Nat, e = .returned (.tuple #[.pointer (some ⟨g_, 0, none⟩), .agg #[.int .i64 r4, v1_], v2_, v3_]) ∧ Kd.R (Kd.int .i64) 2 w' w.heap.size (fun k_ => some k_ ≠ (v2_ : Value).ownBlock ∧ some k_ ≠ (v3_ : Value).ownBlock) v1_ r5 ∧ Kd.R (Kd.int .i64) 2 w' w.heap.size (fun k_ => some k_ ≠ (v1_ : Value).ownBlock ∧ some k_ ≠ (v3_ : Value).ownBlock) v2_ r6 ∧ Kd.R (Kd.int .i64) 2 w' w.heap.size (fun k_ => some k_ ≠ (v1_ : Value).ownBlock ∧ some k_ ≠ (v2_ : Value).ownBlock) v3_ r7 ∧ Z101 w0 w' g_ r1 r2 r3 ∧ Below w0.heap.size w0 w' ∧ Below w.heap.size w w' ∧ w.heap.size ≤ g_ := by
 have hu26 := Tryd.underlying26
 have HR0 := zA hr0
 have HC0 := zA hc0
 clear hr0 hc0
 have HBW := zA (kW w.heap.size w)
 have HB00 := zA hB
 have HW0 := zA hB.size
 have HB := zA hB
 clear hB
 have H := h
 unfold spec_l05Two.f at H
 clear h
 obtain ⟨⟨t911, t912, t913, t915, t916, t919⟩, A4, H⟩ := zb H
 try dsimp only at H
 obtain ⟨t923, A5, H⟩ := zb H
 try dsimp only at H
 by_cases c6 : t923 = true
 ·subst c6
  rw [if_pos rfl] at H
  obtain ⟨y927, hy927⟩ : ∃ y_ : List Int, y_ = (([] : List Int)) := ⟨_, rfl⟩
  replace H : (spec_l05Two.l0 k a2 t919 y927 (([] : List Int)) 0 t911 t912 t913 t915 t916) = some (r1, r2, r3, r4, r5, r6, r7) := zy hy927 H
  have Ny927 := zA hy927
  clear hy927
  obtain ⟨y930, hy930⟩ : ∃ y_ : List Int, y_ = (([] : List Int)) := ⟨_, rfl⟩
  replace H : (spec_l05Two.l0 k a2 t919 y927 y930 0 t911 t912 t913 t915 t916) = some (r1, r2, r3, r4, r5, r6, r7) := zy hy930 H
  have Ny930 := zA hy930
  clear hy930
  have H' := zA H
  clear H
  go_enter Tryd.func75, Tryd.ntmps75
  go_wp2_with (first | (refine zBE 7 #[.int .i64 0, .slice none 0 0] 26 ?_; intro gb910 hg w7 hbox hb; replace HB := zA (kQ (zQ HB.out) hb); have BK910 := zA (hbox); have GW910 := zA (zBH hg HBW.out); have GE910 := zA ((Nat.le_trans HW0.out (by rw [hg]; exact (kP (zQ HBW.out)) : w.heap.size ≤ gb910) : w0.heap.size ≤ gb910)); replace HBW := zA (kQ HBW.out hb); clear hb hbox hg) | (refine zO (some 20) Tryd.func48 #[.slice A0 l0.length c0, .int .i64 a1, .int .i64 a2] ?_; (with_reducible refine (spec_l03Pair.calls k _ _ l0 a1 a2 t911 t912 t913 t915 t916 t919 w0 _ ?side1 ?side2 ?side3 A4.out).mono ?_); (case side1 => exact zT HB.out GE910.out); (case side2 => exact HR0.out); (case side3 => exact HC0.out); rintro e w8 ⟨v917, v920, g914, rfl, ho0, ho1, hi, hb, hb2, hgw⟩; refine ⟨_, rfl, ?_⟩; have HO918 := zA (kI ho0 (kP (zT HBW.out GW910.out))); have HO921 := zA (kI ho1 (kP (zT HBW.out GW910.out))); have GWS914 := zA ((Nat.le_trans (kP (zT HBW.out GW910.out)) hgw : w.heap.size ≤ g914)); replace HBW := zA (kQ (zT HBW.out GW910.out) hb2); replace HB := zA (hb); have HI914 := zA (hi); have NB914_910 := zA (Z101.ne_blk hi (blk_below (g := gb910) (o := .cells #[.int .i64 0, .slice none 0 0] 26 (0, 0)) (zR BK910.out) hb2) (by decide)); have NB910_914 := zA (Ne.symm (Z101.ne_blk hi (blk_below (g := gb910) (o := .cells #[.int .i64 0, .slice none 0 0] 26 (0, 0)) (zR BK910.out) hb2) (by decide))); replace BK910 := zA (zB1 BK910.out hb2); (try clear hb); (try clear hb2); (try clear hi); (try clear hgw); (try clear ho0); (try clear ho1)) | (refine zBE 11 #[.int .i64 0, .slice none 0 0] 26 ?_; intro gb922 hg w9 hbox hb; replace HO918 := zA (kL (zP HO918.out) hb); replace HO921 := zA (kL (zP HO921.out) hb); replace HB := zA (kQ (zV HB.out (Z101.ge HI914.out) GE910.out) hb); have BK922 := zA (hbox); have GW922 := zA (zB6 hg (kP (zV HBW.out GWS914.out GW910.out)) : w.heap.size ≤ gb922); have GE922 := zA ((Nat.le_trans HW0.out (by rw [hg]; exact (kP (zV HBW.out GWS914.out GW910.out)) : w.heap.size ≤ gb922) : w0.heap.size ≤ gb922)); replace HBW := zA (kQ HBW.out hb); have NB910_922 := zA (zB4 hg BK910.out : gb910 ≠ gb922); have NB922_910 := zA (zB5 hg BK910.out : gb922 ≠ gb910); replace BK910 := zA (zB1 BK910.out hb); have NB914_922 := zA (zB7 hg (Z101.lt (show Z101 w0 _ g914 t911 t912 t913 from Z101.uB HI914.out NB914_910.out)) : g914 ≠ gb922); have NB922_914 := zA (zB8 hg (Z101.lt (show Z101 w0 _ g914 t911 t912 t913 from Z101.uB HI914.out NB914_910.out)) : gb922 ≠ g914); replace HI914 := zA (Z101.below (Z101.uB HI914.out NB914_910.out) hb); clear hb hbox hg; have hnb10 := NB922_910.out; have hnc10 := NB910_922.out; have hnb11 := NB922_914.out; have hnc11 := NB914_922.out; obtain ⟨hcz12_0, hcz12_1, hfz12_0, hfz12_1⟩ := zB3 BK922.out; obtain ⟨Ao13, co13, eo13⟩ := kM HO918.out; subst eo13; obtain ⟨Ao14, co14, eo14⟩ := kM HO921.out; subst eo14) | (refine zO (some 26) Tryd.func77 #[.agg #[.int .i64 t915, .slice Ao13 t916.length co13], .slice Ao14 t919.length co14] ?_; (with_reducible refine (spec_l03Is.calls k t915 _ _ t916 _ _ t919 true _ ?side1 ?side2 ?side3 ?side4 A5.out).mono ?_); (case side1 => refine (kB (e := 2) (base := w.heap.size) (ok := fun k_ => some k_ ≠ (.slice Ao14 t919.length co14 : Value).ownBlock) (n := t916.length) (c := co13) ?_).2.2; exact (zP (zFG HO918.out BK922.out (.int .i64 t915) (.slice Ao13 t916.length co13)))); (case side2 => exact (kB HO918.out).2.1); (case side3 => refine (kB (e := 2) (base := w.heap.size) (ok := fun k_ => some k_ ≠ (.slice Ao13 t916.length co13 : Value).ownBlock) (n := t919.length) (c := co14) ?_).2.2; exact (zP (zFG HO921.out BK922.out (.int .i64 t915) (.slice Ao13 t916.length co13)))); (case side4 => exact (kB HO921.out).2.1); rintro e w15 ⟨rfl, hb⟩; refine ⟨_, rfl, ?_⟩; replace HO918 := zA (kL (zP (zFG HO918.out BK922.out (.int .i64 t915) (.slice Ao13 t916.length co13))) hb); replace HO921 := zA (kL (zP (zFG HO921.out BK922.out (.int .i64 t915) (.slice Ao13 t916.length co13))) hb); replace BK910 := zA (blk_below (g := gb910) (o := .cells #[.int .i64 0, .slice none 0 0] 26 (0, 0)) (zBG BK910.out NB910_922.out NB910_922.out) hb); replace BK922 := zA (blk_below (g := gb922) (o := .cells #[.int .i64 t915, .slice Ao13 t916.length co13] 26 (0, 0)) (zRP BK922.out) hb); replace HB := zA (kQ (zW HB.out (Z101.ge HI914.out) GE910.out GE922.out) hb); replace HI914 := zA (Z101.below (show Z101 w0 ((w9.setCell ⟨gb922, 0, none⟩ (.int .i64 t915)).setCell ⟨gb922, 1, none⟩ (.slice Ao13 t916.length co13)) g914 t911 t912 t913 from Z101.uC HI914.out NB914_910.out NB914_922.out) hb); replace HBW := zA (kQ (zW HBW.out GWS914.out GW910.out GW922.out) hb); (try clear hb)) | ((with_reducible refine kS (N := 32) rfl ?_); refine Kd.R_lit (Kd.int .i64) _ 2 ?hg (N := 32) ?hd (xs := ([] : List Int)) (inner := []) (ok := fun _ => True) (okp := fun _ => True) ?hr ?hp (fun _ hk => hk) trivial (kW _ _) (Nat.le_refl _) (by simp) ?_; (case hd => rfl); (case hg => rfl); (case hr => first | (go_simp; done) | (go_simp; rfl)); (case hp => exact (Reps.none _ _)); intro v928 w16 ho17 hb hg_ hnew_; clear hg_ hnew_; (first | rw [← Ny927.out] at ho17 | (simp only [Int.reduceToNat] at ho17; rw [← Ny927.out] at ho17)); have HO929 := zA (kI (kF (kF ho17 (kH (zP HO918.out))) (kH (zP HO921.out))) (kP (zW HBW.out GWS914.out GW910.out GW922.out))); replace HO918 := zA (kE (zP HO918.out) (kC ho17) hb); replace HO921 := zA (kE (zP HO921.out) (kC ho17) hb); replace BK910 := zA (zB1 BK910.out hb); replace BK922 := zA (zB1 BK922.out hb); replace HBW := zA (kQ (zW HBW.out GWS914.out GW910.out GW922.out) hb); replace HB := zA (kQ (zW HB.out (Z101.ge HI914.out) GE910.out GE922.out) hb); replace HI914 := zA (Z101.below (Z101.uC HI914.out NB914_910.out NB914_922.out) hb); clear hb ho17) | ((with_reducible refine kS (N := 33) rfl ?_); refine Kd.R_lit (Kd.int .i64) _ 2 ?hg (N := 33) ?hd (xs := ([] : List Int)) (inner := []) (ok := fun _ => True) (okp := fun _ => True) ?hr ?hp (fun _ hk => hk) trivial (kW _ _) (Nat.le_refl _) (by simp) ?_; (case hd => rfl); (case hg => rfl); (case hr => first | (go_simp; done) | (go_simp; rfl)); (case hp => exact (Reps.none _ _)); intro v931 w18 ho19 hb hg_ hnew_; clear hg_ hnew_; (first | rw [← Ny930.out] at ho19 | (simp only [Int.reduceToNat] at ho19; rw [← Ny930.out] at ho19)); have HO932 := zA (kI (kF (kF (kF ho19 (kH (zP HO918.out))) (kH (zP HO921.out))) (kH (zP HO929.out))) (kP (zW HBW.out GWS914.out GW910.out GW922.out))); replace HO918 := zA (kE (zP HO918.out) (kC ho19) hb); replace HO921 := zA (kE (zP HO921.out) (kC ho19) hb); replace HO929 := zA (kE (zP HO929.out) (kC ho19) hb); replace BK910 := zA (zB1 BK910.out hb); replace BK922 := zA (zB1 BK922.out hb); replace HBW := zA (kQ (zW HBW.out GWS914.out GW910.out GW922.out) hb); replace HB := zA (kQ (zW HB.out (Z101.ge HI914.out) GE910.out GE922.out) hb); replace HI914 := zA (Z101.below (Z101.uC HI914.out NB914_910.out NB914_922.out) hb); clear hb ho19))
  go_loopg [13, 14, 15] k (fun kq v13 v14 v15 w' => ∃ (x13_1 : List Int) (x14_1 : List Int) (x15_1 : Int) (x915001_1 : Int) (x915002_1 : Int), v15 = .int .i64 x15_1 ∧ Aside0 (spec_l05Two.l0 kq a2 t919 x13_1 x14_1 x15_1 t911 x915001_1 x915002_1 t915 t916 = some (r1, r2, r3, r4, r5, r6, r7)) ∧ Aside0 (kq ≤ k) ∧ Aside0 (Kd.R (Kd.int .i64) 2 w' w.heap.size (fun k_ => some k_ ≠ (v13 : Value).ownBlock ∧ some k_ ≠ (v14 : Value).ownBlock ∧ some k_ ≠ ((.slice Ao13 t916.length co13) : Value).ownBlock) (.slice Ao14 t919.length co14) t919) ∧ Aside0 (Kd.R (Kd.int .i64) 2 w' w.heap.size (fun k_ => some k_ ≠ ((.slice Ao14 t919.length co14) : Value).ownBlock ∧ some k_ ≠ (v14 : Value).ownBlock ∧ some k_ ≠ ((.slice Ao13 t916.length co13) : Value).ownBlock) v13 x13_1) ∧ Aside0 (Kd.R (Kd.int .i64) 2 w' w.heap.size (fun k_ => some k_ ≠ ((.slice Ao14 t919.length co14) : Value).ownBlock ∧ some k_ ≠ (v13 : Value).ownBlock ∧ some k_ ≠ ((.slice Ao13 t916.length co13) : Value).ownBlock) v14 x14_1) ∧ Aside0 (Kd.R (Kd.int .i64) 2 w' w.heap.size (fun k_ => some k_ ≠ ((.slice Ao14 t919.length co14) : Value).ownBlock ∧ some k_ ≠ (v13 : Value).ownBlock ∧ some k_ ≠ (v14 : Value).ownBlock) (.slice Ao13 t916.length co13) t916) ∧ Aside0 (w'.heap[gb910]? = some (.cells #[.int .i64 0, (.slice none 0 0)] 26 (0, 0))) ∧ Aside0 (w'.heap[gb922]? = some (.cells #[.int .i64 t915, (.slice Ao13 t916.length co13)] 26 (0, 0))) ∧ Aside0 (Z101 w0 w' g914 t911 x915001_1 x915002_1) ∧ Aside0 (Below w0.heap.size w0 w') ∧ Aside0 (Below w.heap.size w w'))
  case atStart => exact ⟨(y927), (y930), (0), (t912), (t913), zs, H', ⟨Nat.le_refl _⟩, ⟨zPM HO921.out (fun _ hk => ⟨hk.1.2, ⟨hk.2, hk.1.1⟩⟩)⟩, ⟨zPM HO929.out (fun _ hk => ⟨hk.1.2, ⟨hk.2, hk.1.1.2⟩⟩)⟩, ⟨zPM HO932.out (fun _ hk => ⟨hk.1.2, ⟨hk.2, hk.1.1.2⟩⟩)⟩, ⟨zPM HO918.out (fun _ hk => ⟨hk.1.1, ⟨hk.1.2, hk.2⟩⟩)⟩, ⟨zR BK910.out⟩, ⟨zR BK922.out⟩, ⟨Z101.uC HI914.out NB914_910.out NB914_922.out⟩, ⟨zW HB.out (Z101.ge HI914.out) GE910.out GE922.out⟩, ⟨zW HBW.out GWS914.out GW910.out GW922.out⟩⟩
  case round =>
   clear H'
   try clear c1
   try clear c4
   try clear c6
   try clear c7
   try clear c10
   try clear c11
   try clear hcz12_0
   try clear hcz12_1
   try clear hfz12_0
   try clear hfz12_1
   obtain ⟨x13_1, x14_1, x15_1, x915001_1, x915002_1, rfl, HA, HK1, HO_12, HO_13, HO_14, HO_923001, BK910, BK922, HI914, HB, HBW⟩ := hrel
   cases gk with
   | zero => exact absurd HA.out (by simp [spec_l05Two.l0])
   | succ k1 =>
    have H := HA.out
    clear HA
    simp only [spec_l05Two.l0] at H
    by_cases c20 : x15_1 < (t919.length : Int)
    ·rw [if_pos c20] at H
     have c20b0 : decide (x15_1 < (t919.length : Int)) = true := decide_eq_true c20
     clear c20
     obtain ⟨⟨t933, t934, t935⟩, A21, H⟩ := zb H
     try dsimp only at H
     by_cases c22 : t933 = 0
     ·rw [if_pos c22] at H
      obtain ⟨c22b0, c22b1⟩ := zT1 c22
      clear c22
      by_cases c23 : 0 ≤ x15_1
      ·rw [if_pos c23] at H
       have c23b0 : decide (0 ≤ x15_1) = true := decide_eq_true c23
       clear c23
       by_cases c24 : x13_1.length < 17592186044416
       ·rw [if_pos c24] at H
        have LMc24 := zA c24
        clear c24
        obtain ⟨y937, hy937⟩ : ∃ y_ : List Int, y_ = (x13_1 ++ [rd t919 x15_1]) := ⟨_, rfl⟩
        replace H : (spec_l05Two.l0 k1 a2 t919 y937 x14_1 (wrap64 (x15_1 + 1)) t911 t934 t935 t915 t916) = some (r1, r2, r3, r4, r5, r6, r7) := zy hy937 H
        have Ny937 := zA hy937
        clear hy937
        have H' := zA H
        clear H
        go_wp2_with (first | (refine zO (some 41) Tryd.func79 #[.pointer (some ⟨g914, 0, none⟩), .int .i64 6] ?_; (with_reducible refine (spec_l01Next.calls g914 t911 x915001_1 x915002_1 6 t933 t934 t935 w0 _ ?side1 ?side2 A21.out).mono ?_); (case side1 => exact Z101.uC HI914.out NB914_910.out NB914_922.out); (case side2 => exact zW HB.out (Z101.ge HI914.out) GE910.out GE922.out); rintro e w25 ⟨rfl, hi, hb, hk⟩; refine ⟨_, rfl, ?_⟩; replace HO_12 := zA (zB9 (Z101.apart (show Z101 w0 _ g914 t911 x915001_1 x915002_1 from Z101.uC HI914.out NB914_910.out NB914_922.out) (zP HO_12.out) (by decide)) hk); replace HO_13 := zA (zB9 (Z101.apart (show Z101 w0 _ g914 t911 x915001_1 x915002_1 from Z101.uC HI914.out NB914_910.out NB914_922.out) (zP HO_13.out) (by decide)) hk); replace HO_14 := zA (zB9 (Z101.apart (show Z101 w0 _ g914 t911 x915001_1 x915002_1 from Z101.uC HI914.out NB914_910.out NB914_922.out) (zP HO_14.out) (by decide)) hk); replace HO_923001 := zA (zB9 (Z101.apart (show Z101 w0 _ g914 t911 x915001_1 x915002_1 from Z101.uC HI914.out NB914_910.out NB914_922.out) (zP HO_923001.out) (by decide)) hk); replace BK910 := zA (zB2 hk BK910.out NB910_914.out); replace BK922 := zA (zB2 hk BK922.out NB922_914.out); replace HBW := zA (Z101.below_keepW HB00.out (zW HBW.out GWS914.out GW910.out GW922.out) hk hb GWS914.out); replace HB := zA (hb); replace HI914 := zA (hi); (try clear hb); (try clear hk); (try clear hi); have p936 : 0 ≤ (x15_1 : Int) := zd; have q936 : x15_1 < (t919.length : Int) := zd; obtain ⟨ad936, e936, hx936_0⟩ := Kd.at_int (kB HO_12.out).2.2 x15_1 p936 q936; cases e936; replace p936 := eq_true p936; replace q936 := eq_true q936) | ((with_reducible refine gate_builtin (b := .append) (xs := #[.tmp 58, .tmp 63]) rfl ?_); at_builtin; refine Kd.R_append (Kd.int .i64) w.heap.size rfl (.tmp 58) (.tmp 63) 24 2 (.int .i64 0) 8 rfl Tryd.underlying24 info2 rfl (by decide) (by omega) u13 x13_1 (rd t919 x15_1) [.int .i64 (rd t919 x15_1)] (fun k_ => some k_ ≠ (.slice (some ad936) t919.length co14 : Value).ownBlock ∧ some k_ ≠ (u14 : Value).ownBlock ∧ some k_ ≠ (.slice Ao13 t916.length co13 : Value).ownBlock) (fun _ => False) rfl rfl ?aP (fun _ hk => hk.elim) ?aF ?aO (kW _ _) ?aS ?aL ?_; (case aP => exact rfl); (case aF => exact (fun k_ hk => ⟨jF (kH (zP HO_12.out)) k_ hk, jF (kH (zP HO_14.out)) k_ hk, jF (kH (zP HO_923001.out)) k_ hk⟩)); (case aO => exact (zP HO_13.out)); (case aS => exact (kP (zW HBW.out GWS914.out GW910.out GW922.out))); (case aL => have := LMc24.out; omega); intro v938 w26 ho hb hg hat; rw [← Ny937.out] at ho; replace HO_12 := zA (Kd.R_after (ok := (fun k_ => some k_ ≠ (u14 : Value).ownBlock ∧ some k_ ≠ (.slice Ao13 t916.length co13 : Value).ownBlock)) (by (with_reducible repeat (first | apply zF | apply zG | apply zH)); exact kA HO_12.out (fun _ hk => ⟨⟨hk.2.1, hk.2.2⟩, hk.1⟩)) hg hat); replace HO_14 := zA (Kd.R_after (ok := (fun k_ => some k_ ≠ (.slice (some ad936) t919.length co14 : Value).ownBlock ∧ some k_ ≠ (.slice Ao13 t916.length co13 : Value).ownBlock)) (by (with_reducible repeat (first | apply zF | apply zG | apply zH)); exact kA HO_14.out (fun _ hk => ⟨⟨hk.1, hk.2.2⟩, hk.2.1⟩)) hg hat); replace HO_923001 := zA (Kd.R_after (ok := (fun k_ => some k_ ≠ (.slice (some ad936) t919.length co14 : Value).ownBlock ∧ some k_ ≠ (u14 : Value).ownBlock)) (by (with_reducible repeat (first | apply zF | apply zG | apply zH)); exact kA HO_923001.out (fun _ hk => ⟨⟨hk.1, hk.2.2⟩, hk.2.1⟩)) hg hat); replace BK910 := zA (blk_grown (g := gb910) (o := .cells #[.int .i64 0, .slice none 0 0] 26 (0, 0)) (zR BK910.out) hg (Kd.R_ne HO_13.out BK910.out (by decide))); replace BK922 := zA (blk_grown (g := gb922) (o := .cells #[.int .i64 t915, .slice Ao13 t916.length co13] 26 (0, 0)) (zR BK922.out) hg (Kd.R_ne HO_13.out BK922.out (by decide))); replace HBW := zA (below_weaken (zW HBW.out GWS914.out GW910.out GW922.out) (Nat.le_refl _) hb); replace HB := zA (below_weaken (zW HB.out (Z101.ge HI914.out) GE910.out GE922.out) HB00.out.size hb); replace HI914 := zA (Z101.grown (Z101.uC HI914.out NB914_910.out NB914_922.out) hg (Z101.own_ne HI914.out HO_13.out (by decide))); have HO939 := zA (ho); clear HO_13; clear ho hb hg hat))
        go_roundg k1
        case measure => have := HK1.out; omega
        case rel => exact ⟨(y937), (x14_1), (wrap64 (x15_1 + 1)), (t934), (t935), zs, H', ⟨by have := HK1.out; omega⟩, ⟨zPM HO_12.out (fun _ hk => ⟨hk.2, ⟨hk.1.1, hk.1.2⟩⟩)⟩, ⟨zP HO939.out⟩, ⟨zPM HO_14.out (fun _ hk => ⟨hk.1.1, ⟨hk.2, hk.1.2⟩⟩)⟩, ⟨zPM HO_923001.out (fun _ hk => ⟨hk.1.1, ⟨hk.2, hk.1.2⟩⟩)⟩, ⟨zR BK910.out⟩, ⟨zR BK922.out⟩, ⟨Z101.uC HI914.out NB914_910.out NB914_922.out⟩, ⟨zW HB.out (Z101.ge HI914.out) GE910.out GE922.out⟩, ⟨zW HBW.out GWS914.out GW910.out GW922.out⟩⟩
       rw [if_neg c24] at H
       exact absurd H (by simp)
      rw [if_neg c23] at H
      exact absurd H (by simp)
     rw [if_neg c22] at H
     obtain ⟨c22b0, c22b1⟩ := zT2 c22
     by_cases c27 : t933 = 1
     ·rw [if_pos c27] at H
      obtain ⟨c27b0, c27b1⟩ := zT1 c27
      clear c27
      by_cases c28 : 0 ≤ x15_1
      ·rw [if_pos c28] at H
       have c28b0 : decide (0 ≤ x15_1) = true := decide_eq_true c28
       clear c28
       by_cases c29 : x14_1.length < 17592186044416
       ·rw [if_pos c29] at H
        have LMc29 := zA c29
        clear c29
        obtain ⟨y941, hy941⟩ : ∃ y_ : List Int, y_ = (x14_1 ++ [rd t919 x15_1]) := ⟨_, rfl⟩
        replace H : (spec_l05Two.l0 k1 a2 t919 x13_1 y941 (wrap64 (x15_1 + 1)) t911 t934 t935 t915 t916) = some (r1, r2, r3, r4, r5, r6, r7) := zy hy941 H
        have Ny941 := zA hy941
        clear hy941
        have H' := zA H
        clear H
        go_wp2_with (first | (refine zO (some 41) Tryd.func79 #[.pointer (some ⟨g914, 0, none⟩), .int .i64 6] ?_; (with_reducible refine (spec_l01Next.calls g914 t911 x915001_1 x915002_1 6 t933 t934 t935 w0 _ ?side1 ?side2 A21.out).mono ?_); (case side1 => exact Z101.uC HI914.out NB914_910.out NB914_922.out); (case side2 => exact zW HB.out (Z101.ge HI914.out) GE910.out GE922.out); rintro e w30 ⟨rfl, hi, hb, hk⟩; refine ⟨_, rfl, ?_⟩; replace HO_12 := zA (zB9 (Z101.apart (show Z101 w0 _ g914 t911 x915001_1 x915002_1 from Z101.uC HI914.out NB914_910.out NB914_922.out) (zP HO_12.out) (by decide)) hk); replace HO_13 := zA (zB9 (Z101.apart (show Z101 w0 _ g914 t911 x915001_1 x915002_1 from Z101.uC HI914.out NB914_910.out NB914_922.out) (zP HO_13.out) (by decide)) hk); replace HO_14 := zA (zB9 (Z101.apart (show Z101 w0 _ g914 t911 x915001_1 x915002_1 from Z101.uC HI914.out NB914_910.out NB914_922.out) (zP HO_14.out) (by decide)) hk); replace HO_923001 := zA (zB9 (Z101.apart (show Z101 w0 _ g914 t911 x915001_1 x915002_1 from Z101.uC HI914.out NB914_910.out NB914_922.out) (zP HO_923001.out) (by decide)) hk); replace BK910 := zA (zB2 hk BK910.out NB910_914.out); replace BK922 := zA (zB2 hk BK922.out NB922_914.out); replace HBW := zA (Z101.below_keepW HB00.out (zW HBW.out GWS914.out GW910.out GW922.out) hk hb GWS914.out); replace HB := zA (hb); replace HI914 := zA (hi); (try clear hb); (try clear hk); (try clear hi); have p940 : 0 ≤ (x15_1 : Int) := zd; have q940 : x15_1 < (t919.length : Int) := zd; obtain ⟨ad940, e940, hx940_0⟩ := Kd.at_int (kB HO_12.out).2.2 x15_1 p940 q940; cases e940; replace p940 := eq_true p940; replace q940 := eq_true q940) | ((with_reducible refine gate_builtin (b := .append) (xs := #[.tmp 67, .tmp 72]) rfl ?_); at_builtin; refine Kd.R_append (Kd.int .i64) w.heap.size rfl (.tmp 67) (.tmp 72) 24 2 (.int .i64 0) 8 rfl Tryd.underlying24 info2 rfl (by decide) (by omega) u14 x14_1 (rd t919 x15_1) [.int .i64 (rd t919 x15_1)] (fun k_ => some k_ ≠ (.slice (some ad940) t919.length co14 : Value).ownBlock ∧ some k_ ≠ (u13 : Value).ownBlock ∧ some k_ ≠ (.slice Ao13 t916.length co13 : Value).ownBlock) (fun _ => False) rfl rfl ?aP (fun _ hk => hk.elim) ?aF ?aO (kW _ _) ?aS ?aL ?_; (case aP => exact rfl); (case aF => exact (fun k_ hk => ⟨jF (kH (zP HO_12.out)) k_ hk, jF (kH (zP HO_13.out)) k_ hk, jF (kH (zP HO_923001.out)) k_ hk⟩)); (case aO => exact (zP HO_14.out)); (case aS => exact (kP (zW HBW.out GWS914.out GW910.out GW922.out))); (case aL => have := LMc29.out; omega); intro v942 w31 ho hb hg hat; rw [← Ny941.out] at ho; replace HO_12 := zA (Kd.R_after (ok := (fun k_ => some k_ ≠ (u13 : Value).ownBlock ∧ some k_ ≠ (.slice Ao13 t916.length co13 : Value).ownBlock)) (by (with_reducible repeat (first | apply zF | apply zG | apply zH)); exact kA HO_12.out (fun _ hk => ⟨⟨hk.1, hk.2.2⟩, hk.2.1⟩)) hg hat); replace HO_13 := zA (Kd.R_after (ok := (fun k_ => some k_ ≠ (.slice (some ad940) t919.length co14 : Value).ownBlock ∧ some k_ ≠ (.slice Ao13 t916.length co13 : Value).ownBlock)) (by (with_reducible repeat (first | apply zF | apply zG | apply zH)); exact kA HO_13.out (fun _ hk => ⟨⟨hk.1, hk.2.2⟩, hk.2.1⟩)) hg hat); replace HO_923001 := zA (Kd.R_after (ok := (fun k_ => some k_ ≠ (.slice (some ad940) t919.length co14 : Value).ownBlock ∧ some k_ ≠ (u13 : Value).ownBlock)) (by (with_reducible repeat (first | apply zF | apply zG | apply zH)); exact kA HO_923001.out (fun _ hk => ⟨⟨hk.1, hk.2.1⟩, hk.2.2⟩)) hg hat); replace BK910 := zA (blk_grown (g := gb910) (o := .cells #[.int .i64 0, .slice none 0 0] 26 (0, 0)) (zR BK910.out) hg (Kd.R_ne HO_14.out BK910.out (by decide))); replace BK922 := zA (blk_grown (g := gb922) (o := .cells #[.int .i64 t915, .slice Ao13 t916.length co13] 26 (0, 0)) (zR BK922.out) hg (Kd.R_ne HO_14.out BK922.out (by decide))); replace HBW := zA (below_weaken (zW HBW.out GWS914.out GW910.out GW922.out) (Nat.le_refl _) hb); replace HB := zA (below_weaken (zW HB.out (Z101.ge HI914.out) GE910.out GE922.out) HB00.out.size hb); replace HI914 := zA (Z101.grown (Z101.uC HI914.out NB914_910.out NB914_922.out) hg (Z101.own_ne HI914.out HO_14.out (by decide))); have HO943 := zA (ho); clear HO_14; clear ho hb hg hat))
        go_roundg k1
        case measure => have := HK1.out; omega
        case rel => exact ⟨(x13_1), (y941), (wrap64 (x15_1 + 1)), (t934), (t935), zs, H', ⟨by have := HK1.out; omega⟩, ⟨zPM HO_12.out (fun _ hk => ⟨hk.1.1, ⟨hk.2, hk.1.2⟩⟩)⟩, ⟨zPM HO_13.out (fun _ hk => ⟨hk.1.1, ⟨hk.2, hk.1.2⟩⟩)⟩, ⟨zP HO943.out⟩, ⟨zPM HO_923001.out (fun _ hk => ⟨hk.1.1, ⟨hk.1.2, hk.2⟩⟩)⟩, ⟨zR BK910.out⟩, ⟨zR BK922.out⟩, ⟨Z101.uC HI914.out NB914_910.out NB914_922.out⟩, ⟨zW HB.out (Z101.ge HI914.out) GE910.out GE922.out⟩, ⟨zW HBW.out GWS914.out GW910.out GW922.out⟩⟩
       rw [if_neg c29] at H
       exact absurd H (by simp)
      rw [if_neg c28] at H
      exact absurd H (by simp)
     rw [if_neg c27] at H
     obtain ⟨c27b0, c27b1⟩ := zT2 c27
     by_cases c32 : 0 ≤ x15_1
     ·rw [if_pos c32] at H
      have c32b0 : decide (0 ≤ x15_1) = true := decide_eq_true c32
      clear c32
      by_cases c33 : x13_1.length < 17592186044416
      ·rw [if_pos c33] at H
       have LMc33 := zA c33
       clear c33
       obtain ⟨y945, hy945⟩ : ∃ y_ : List Int, y_ = (x13_1 ++ [rd t919 x15_1]) := ⟨_, rfl⟩
       replace H : (if x14_1.length < 17592186044416 then (spec_l05Two.l0 k1 a2 t919 y945 (x14_1 ++ [rd t919 x15_1]) (wrap64 (x15_1 + 1)) t911 t934 t935 t915 t916) else (none)) = some (r1, r2, r3, r4, r5, r6, r7) := zy hy945 H
       have Ny945 := zA hy945
       clear hy945
       by_cases c34 : x14_1.length < 17592186044416
       ·rw [if_pos c34] at H
        have LMc34 := zA c34
        clear c34
        obtain ⟨y949, hy949⟩ : ∃ y_ : List Int, y_ = (x14_1 ++ [rd t919 x15_1]) := ⟨_, rfl⟩
        replace H : (spec_l05Two.l0 k1 a2 t919 y945 y949 (wrap64 (x15_1 + 1)) t911 t934 t935 t915 t916) = some (r1, r2, r3, r4, r5, r6, r7) := zy hy949 H
        have Ny949 := zA hy949
        clear hy949
        have H' := zA H
        clear H
        go_wp2_with (first | (refine zO (some 41) Tryd.func79 #[.pointer (some ⟨g914, 0, none⟩), .int .i64 6] ?_; (with_reducible refine (spec_l01Next.calls g914 t911 x915001_1 x915002_1 6 t933 t934 t935 w0 _ ?side1 ?side2 A21.out).mono ?_); (case side1 => exact Z101.uC HI914.out NB914_910.out NB914_922.out); (case side2 => exact zW HB.out (Z101.ge HI914.out) GE910.out GE922.out); rintro e w35 ⟨rfl, hi, hb, hk⟩; refine ⟨_, rfl, ?_⟩; replace HO_12 := zA (zB9 (Z101.apart (show Z101 w0 _ g914 t911 x915001_1 x915002_1 from Z101.uC HI914.out NB914_910.out NB914_922.out) (zP HO_12.out) (by decide)) hk); replace HO_13 := zA (zB9 (Z101.apart (show Z101 w0 _ g914 t911 x915001_1 x915002_1 from Z101.uC HI914.out NB914_910.out NB914_922.out) (zP HO_13.out) (by decide)) hk); replace HO_14 := zA (zB9 (Z101.apart (show Z101 w0 _ g914 t911 x915001_1 x915002_1 from Z101.uC HI914.out NB914_910.out NB914_922.out) (zP HO_14.out) (by decide)) hk); replace HO_923001 := zA (zB9 (Z101.apart (show Z101 w0 _ g914 t911 x915001_1 x915002_1 from Z101.uC HI914.out NB914_910.out NB914_922.out) (zP HO_923001.out) (by decide)) hk); replace BK910 := zA (zB2 hk BK910.out NB910_914.out); replace BK922 := zA (zB2 hk BK922.out NB922_914.out); replace HBW := zA (Z101.below_keepW HB00.out (zW HBW.out GWS914.out GW910.out GW922.out) hk hb GWS914.out); replace HB := zA (hb); replace HI914 := zA (hi); (try clear hb); (try clear hk); (try clear hi); have p944 : 0 ≤ (x15_1 : Int) := zd; have q944 : x15_1 < (t919.length : Int) := zd; obtain ⟨ad944, e944, hx944_0⟩ := Kd.at_int (kB HO_12.out).2.2 x15_1 p944 q944; cases e944; replace p944 := eq_true p944; replace q944 := eq_true q944) | ((with_reducible refine gate_builtin (b := .append) (xs := #[.tmp 42, .tmp 47]) rfl ?_); at_builtin; refine Kd.R_append (Kd.int .i64) w.heap.size rfl (.tmp 42) (.tmp 47) 24 2 (.int .i64 0) 8 rfl Tryd.underlying24 info2 rfl (by decide) (by omega) u13 x13_1 (rd t919 x15_1) [.int .i64 (rd t919 x15_1)] (fun k_ => some k_ ≠ (.slice (some ad944) t919.length co14 : Value).ownBlock ∧ some k_ ≠ (u14 : Value).ownBlock ∧ some k_ ≠ (.slice Ao13 t916.length co13 : Value).ownBlock) (fun _ => False) rfl rfl ?aP (fun _ hk => hk.elim) ?aF ?aO (kW _ _) ?aS ?aL ?_; (case aP => exact rfl); (case aF => exact (fun k_ hk => ⟨jF (kH (zP HO_12.out)) k_ hk, jF (kH (zP HO_14.out)) k_ hk, jF (kH (zP HO_923001.out)) k_ hk⟩)); (case aO => exact (zP HO_13.out)); (case aS => exact (kP (zW HBW.out GWS914.out GW910.out GW922.out))); (case aL => have := LMc33.out; omega); intro v946 w36 ho hb hg hat; rw [← Ny945.out] at ho; replace HO_12 := zA (Kd.R_after (ok := (fun k_ => some k_ ≠ (u14 : Value).ownBlock ∧ some k_ ≠ (.slice Ao13 t916.length co13 : Value).ownBlock)) (by (with_reducible repeat (first | apply zF | apply zG | apply zH)); exact kA HO_12.out (fun _ hk => ⟨⟨hk.2.1, hk.2.2⟩, hk.1⟩)) hg hat); replace HO_14 := zA (Kd.R_after (ok := (fun k_ => some k_ ≠ (.slice (some ad944) t919.length co14 : Value).ownBlock ∧ some k_ ≠ (.slice Ao13 t916.length co13 : Value).ownBlock)) (by (with_reducible repeat (first | apply zF | apply zG | apply zH)); exact kA HO_14.out (fun _ hk => ⟨⟨hk.1, hk.2.2⟩, hk.2.1⟩)) hg hat); replace HO_923001 := zA (Kd.R_after (ok := (fun k_ => some k_ ≠ (.slice (some ad944) t919.length co14 : Value).ownBlock ∧ some k_ ≠ (u14 : Value).ownBlock)) (by (with_reducible repeat (first | apply zF | apply zG | apply zH)); exact kA HO_923001.out (fun _ hk => ⟨⟨hk.1, hk.2.2⟩, hk.2.1⟩)) hg hat); replace BK910 := zA (blk_grown (g := gb910) (o := .cells #[.int .i64 0, .slice none 0 0] 26 (0, 0)) (zR BK910.out) hg (Kd.R_ne HO_13.out BK910.out (by decide))); replace BK922 := zA (blk_grown (g := gb922) (o := .cells #[.int .i64 t915, .slice Ao13 t916.length co13] 26 (0, 0)) (zR BK922.out) hg (Kd.R_ne HO_13.out BK922.out (by decide))); replace HBW := zA (below_weaken (zW HBW.out GWS914.out GW910.out GW922.out) (Nat.le_refl _) hb); replace HB := zA (below_weaken (zW HB.out (Z101.ge HI914.out) GE910.out GE922.out) HB00.out.size hb); replace HI914 := zA (Z101.grown (Z101.uC HI914.out NB914_910.out NB914_922.out) hg (Z101.own_ne HI914.out HO_13.out (by decide))); have HO947 := zA (ho); clear HO_13; clear ho hb hg hat; have p948 : 0 ≤ (x15_1 : Int) := zd; have q948 : x15_1 < (t919.length : Int) := zd; obtain ⟨ad948, e948, hx948_0⟩ := Kd.at_int (kB HO_12.out).2.2 x15_1 p948 q948; obtain rfl : ad944 = ad948 := (by injection e948); replace p948 := eq_true p948; replace q948 := eq_true q948) | ((with_reducible refine gate_builtin (b := .append) (xs := #[.tmp 49, .tmp 54]) rfl ?_); at_builtin; refine Kd.R_append (Kd.int .i64) w.heap.size rfl (.tmp 49) (.tmp 54) 24 2 (.int .i64 0) 8 rfl Tryd.underlying24 info2 rfl (by decide) (by omega) u14 x14_1 (rd t919 x15_1) [.int .i64 (rd t919 x15_1)] (fun k_ => some k_ ≠ (.slice (some ad944) t919.length co14 : Value).ownBlock ∧ some k_ ≠ (.slice Ao13 t916.length co13 : Value).ownBlock ∧ some k_ ≠ (v946 : Value).ownBlock) (fun _ => False) rfl rfl ?aP (fun _ hk => hk.elim) ?aF ?aO (kW _ _) ?aS ?aL ?_; (case aP => exact rfl); (case aF => exact (fun k_ hk => ⟨jF (kH (zP HO_12.out)) k_ hk, jF (kH (zP HO_923001.out)) k_ hk, jF (kH (zP HO947.out)) k_ hk⟩)); (case aO => exact (by (with_reducible repeat (first | apply zF | apply zG | apply zH)); exact kA HO_14.out (fun _ hk => ⟨hk.1.1, ⟨hk.1.2, hk.2⟩⟩))); (case aS => exact (kP (zW HBW.out GWS914.out GW910.out GW922.out))); (case aL => have := LMc34.out; omega); intro v950 w37 ho hb hg hat; rw [← Ny949.out] at ho; replace HO_12 := zA (Kd.R_after (ok := (fun k_ => some k_ ≠ (.slice Ao13 t916.length co13 : Value).ownBlock ∧ some k_ ≠ (v946 : Value).ownBlock)) (by (with_reducible repeat (first | apply zF | apply zG | apply zH)); exact kA HO_12.out (fun _ hk => ⟨⟨hk.1.2, hk.2⟩, hk.1.1⟩)) hg hat); replace HO_923001 := zA (Kd.R_after (ok := (fun k_ => some k_ ≠ (.slice (some ad944) t919.length co14 : Value).ownBlock ∧ some k_ ≠ (v946 : Value).ownBlock)) (by (with_reducible repeat (first | apply zF | apply zG | apply zH)); exact kA HO_923001.out (fun _ hk => ⟨⟨hk.1.1, hk.2⟩, hk.1.2⟩)) hg hat); replace BK910 := zA (blk_grown (g := gb910) (o := .cells #[.int .i64 0, .slice none 0 0] 26 (0, 0)) (zR BK910.out) hg (Kd.R_ne HO_14.out BK910.out (by decide))); replace BK922 := zA (blk_grown (g := gb922) (o := .cells #[.int .i64 t915, .slice Ao13 t916.length co13] 26 (0, 0)) (zR BK922.out) hg (Kd.R_ne HO_14.out BK922.out (by decide))); replace HO947 := zA (Kd.R_after (ok := (fun k_ => some k_ ≠ (.slice (some ad944) t919.length co14 : Value).ownBlock ∧ some k_ ≠ (.slice Ao13 t916.length co13 : Value).ownBlock)) (by (with_reducible repeat (first | apply zF | apply zG | apply zH)); exact kA HO947.out (fun _ hk => ⟨⟨hk.1, hk.2.2⟩, hk.2.1⟩)) hg hat); replace HBW := zA (below_weaken (zW HBW.out GWS914.out GW910.out GW922.out) (Nat.le_refl _) hb); replace HB := zA (below_weaken (zW HB.out (Z101.ge HI914.out) GE910.out GE922.out) HB00.out.size hb); replace HI914 := zA (Z101.grown (Z101.uC HI914.out NB914_910.out NB914_922.out) hg (Z101.own_ne HI914.out HO_14.out (by decide))); have HO951 := zA (ho); clear HO_14; clear ho hb hg hat))
        go_roundg k1
        case measure => have := HK1.out; omega
        case rel => exact ⟨(y945), (y949), (wrap64 (x15_1 + 1)), (t934), (t935), zs, H', ⟨by have := HK1.out; omega⟩, ⟨zPM HO_12.out (fun _ hk => ⟨hk.1.2, ⟨hk.2, hk.1.1⟩⟩)⟩, ⟨zPM HO947.out (fun _ hk => ⟨hk.1.1, ⟨hk.2, hk.1.2⟩⟩)⟩, ⟨zPM HO951.out (fun _ hk => ⟨hk.1, ⟨hk.2.2, hk.2.1⟩⟩)⟩, ⟨zPM HO_923001.out (fun _ hk => ⟨hk.1.1, ⟨hk.1.2, hk.2⟩⟩)⟩, ⟨zR BK910.out⟩, ⟨zR BK922.out⟩, ⟨Z101.uC HI914.out NB914_910.out NB914_922.out⟩, ⟨zW HB.out (Z101.ge HI914.out) GE910.out GE922.out⟩, ⟨zW HBW.out GWS914.out GW910.out GW922.out⟩⟩
       rw [if_neg c34] at H
       exact absurd H (by simp)
      rw [if_neg c33] at H
      exact absurd H (by simp)
     rw [if_neg c32] at H
     exact absurd H (by simp)
    rw [if_neg c20] at H
    have c20b0 : decide (x15_1 < (t919.length : Int)) = false := decide_eq_false c20
    clear c20
    obtain ⟨⟨t952, t953, t954⟩, A38, H⟩ := zb H
    try dsimp only at H
    have HC39 := zA H
    clear H
    go_upto_if 76 with (first | (refine zO (some 75) Tryd.func79 #[.pointer (some ⟨g914, 0, none⟩), .int .i64 5] ?_; (with_reducible refine (spec_l01Next.calls g914 t911 x915001_1 x915002_1 5 t952 t953 t954 w0 _ ?side1 ?side2 A38.out).mono ?_); (case side1 => exact Z101.uC HI914.out NB914_910.out NB914_922.out); (case side2 => exact zW HB.out (Z101.ge HI914.out) GE910.out GE922.out); rintro e w40 ⟨rfl, hi, hb, hk⟩; refine ⟨_, rfl, ?_⟩; replace HO_12 := zA (zB9 (Z101.apart (show Z101 w0 _ g914 t911 x915001_1 x915002_1 from Z101.uC HI914.out NB914_910.out NB914_922.out) (zP HO_12.out) (by decide)) hk); replace HO_13 := zA (zB9 (Z101.apart (show Z101 w0 _ g914 t911 x915001_1 x915002_1 from Z101.uC HI914.out NB914_910.out NB914_922.out) (zP HO_13.out) (by decide)) hk); replace HO_14 := zA (zB9 (Z101.apart (show Z101 w0 _ g914 t911 x915001_1 x915002_1 from Z101.uC HI914.out NB914_910.out NB914_922.out) (zP HO_14.out) (by decide)) hk); replace HO_923001 := zA (zB9 (Z101.apart (show Z101 w0 _ g914 t911 x915001_1 x915002_1 from Z101.uC HI914.out NB914_910.out NB914_922.out) (zP HO_923001.out) (by decide)) hk); replace BK910 := zA (zB2 hk BK910.out NB910_914.out); replace BK922 := zA (zB2 hk BK922.out NB922_914.out); replace HBW := zA (Z101.below_keepW HB00.out (zW HBW.out GWS914.out GW910.out GW922.out) hk hb GWS914.out); replace HB := zA (hb); replace HI914 := zA (hi); (try clear hb); (try clear hk); (try clear hi)))
    (try simp only [Act.put, zL, zM, zN])
    go_cut [14] (fun v14 wc => ∃ (kq : Nat) (x14_38 : List Int) (x915001_38 : Int) (x915002_38 : Int), Aside0 (spec_l05Two.j1 kq x13_1 x14_38 t911 x915001_38 x915002_38 t915 t916 = some (r1, r2, r3, r4, r5, r6, r7)) ∧ Aside0 (kq ≤ k1) ∧ Aside0 (Kd.R (Kd.int .i64) 2 wc w.heap.size (fun k_ => some k_ ≠ (v14 : Value).ownBlock ∧ some k_ ≠ ((.slice Ao13 t916.length co13) : Value).ownBlock) u13 x13_1) ∧ Aside0 (Kd.R (Kd.int .i64) 2 wc w.heap.size (fun k_ => some k_ ≠ (u13 : Value).ownBlock ∧ some k_ ≠ ((.slice Ao13 t916.length co13) : Value).ownBlock) v14 x14_38) ∧ Aside0 (Kd.R (Kd.int .i64) 2 wc w.heap.size (fun k_ => some k_ ≠ (u13 : Value).ownBlock ∧ some k_ ≠ (v14 : Value).ownBlock) (.slice Ao13 t916.length co13) t916) ∧ Aside0 (wc.heap[gb910]? = some (.cells #[.int .i64 0, (.slice none 0 0)] 26 (0, 0))) ∧ Aside0 (wc.heap[gb922]? = some (.cells #[.int .i64 t915, (.slice Ao13 t916.length co13)] 26 (0, 0))) ∧ Aside0 (Z101 w0 wc g914 t911 x915001_38 x915002_38) ∧ Aside0 (Below w0.heap.size w0 wc) ∧ Aside0 (Below w.heap.size w wc))
    case first =>
     have H := HC39.out
     clear HC39
     by_cases c41 : t952 = 0
     ·rw [if_pos c41] at H
      obtain ⟨c41b0, c41b1⟩ := zT1 c41
      clear c41
      (first | rw [c41b0] | (simp only [i64_w, i32_w]; rw [c41b0]) | skip)
      obtain ⟨⟨t955, t958, t959⟩, A42, H⟩ := zb H
      try dsimp only at H
      have H' := zA H
      clear H
      have hnb43 := NB922_910.out
      have hnc43 := NB910_922.out
      have hnb44 := NB922_914.out
      have hnc44 := NB914_922.out
      obtain ⟨hcz45_0, hcz45_1, hfz45_0, hfz45_1⟩ := zB3 BK922.out
      go_wp2_with (first | (refine zO (some 80) Tryd.func99 #[.pointer (some ⟨g914, 0, none⟩), .agg #[.int .i64 t915, .slice Ao13 t916.length co13], .int .i64 a2] ?_; (with_reducible refine (spec_l03Spoil.calls k1 g914 t911 t953 t954 t915 _ _ t916 a2 t955 t958 t959 w0 _ ?side1 ?side2 ?side3 ?side4 ?side5 A42.out).mono ?_); (case side1 => exact Z101.uC HI914.out NB914_910.out NB914_922.out); (case side2 => exact zW HB.out (Z101.ge HI914.out) GE910.out GE922.out); (case side3 => exact zS (kB HO_923001.out).2.2); (case side4 => exact (kB HO_923001.out).2.1); (case side5 => exact jJ (Z101.own_ne HI914.out HO_923001.out (by decide))); rintro e w46 ⟨v956, rfl, ho0, hi, hb, hk⟩; refine ⟨_, rfl, ?_⟩; replace BK910 := zA (zB2 hk BK910.out NB910_914.out); replace BK922 := zA (zB2 hk BK922.out NB922_914.out); have HO957 := zA (kI (kF (kF (kF (kF ho0 (kH (zP HO_12.out))) (kH (zP HO_13.out))) (kH (zP HO_14.out))) (kH (zP HO_923001.out))) (kP (zW HBW.out GWS914.out GW910.out GW922.out))); replace HO_12 := zA (kA (Kd.R_told (Kd.R_oldK (Z101.apart (show Z101 w0 _ g914 t911 t953 t954 from Z101.uC HI914.out NB914_910.out NB914_922.out) (zP HO_12.out) (by decide)) hk) (kC ho0)) (fun _ h_ => h_.1)); replace HO_13 := zA (kA (Kd.R_told (Kd.R_oldK (Z101.apart (show Z101 w0 _ g914 t911 t953 t954 from Z101.uC HI914.out NB914_910.out NB914_922.out) (zP HO_13.out) (by decide)) hk) (kC ho0)) (fun _ h_ => h_.1)); replace HO_14 := zA (kA (Kd.R_told (Kd.R_oldK (Z101.apart (show Z101 w0 _ g914 t911 t953 t954 from Z101.uC HI914.out NB914_910.out NB914_922.out) (zP HO_14.out) (by decide)) hk) (kC ho0)) (fun _ h_ => h_.1)); replace HO_923001 := zA (kA (Kd.R_told (Kd.R_oldK (Z101.apart (show Z101 w0 _ g914 t911 t953 t954 from Z101.uC HI914.out NB914_910.out NB914_922.out) (zP HO_923001.out) (by decide)) hk) (kC ho0)) (fun _ h_ => h_.1)); replace HBW := zA (Z101.below_keepW HB00.out (zW HBW.out GWS914.out GW910.out GW922.out) hk hb GWS914.out); replace HB := zA (hb); replace HI914 := zA (hi); (try clear hb); (try clear hk); (try clear hi); (try clear ho0)))
      go_meet
      case rel => exact ⟨_, (t955), (t958), (t959), H', ⟨by have := HK1.out; first | omega | exact Nat.le_refl _⟩, ⟨zPM HO_13.out (fun _ hk => ⟨hk.2, hk.1.2.2⟩)⟩, ⟨zPM HO957.out (fun _ hk => ⟨hk.1.1.2, hk.2⟩)⟩, ⟨zPM HO_923001.out (fun _ hk => ⟨hk.1.2.1, hk.2⟩)⟩, ⟨zR BK910.out⟩, ⟨zR BK922.out⟩, ⟨Z101.uC HI914.out NB914_910.out NB914_922.out⟩, ⟨zW HB.out (Z101.ge HI914.out) GE910.out GE922.out⟩, ⟨zW HBW.out GWS914.out GW910.out GW922.out⟩⟩
     rw [if_neg c41] at H
     obtain ⟨c41b0, c41b1⟩ := zT2 c41
     (first | rw [c41b0] | (simp only [i64_w, i32_w]; rw [c41b0]) | skip)
     have H' := zA H
     clear H
     go_wp2
     go_meet
     case rel => exact ⟨_, (x14_1), (t953), (t954), H', ⟨by have := HK1.out; first | omega | exact Nat.le_refl _⟩, ⟨zPM HO_13.out (fun _ hk => ⟨hk.2.1, hk.2.2⟩)⟩, ⟨zPM HO_14.out (fun _ hk => ⟨hk.2.1, hk.2.2⟩)⟩, ⟨zPM HO_923001.out (fun _ hk => ⟨hk.2.1, hk.2.2⟩)⟩, ⟨zR BK910.out⟩, ⟨zR BK922.out⟩, ⟨Z101.uC HI914.out NB914_910.out NB914_922.out⟩, ⟨zW HB.out (Z101.ge HI914.out) GE910.out GE922.out⟩, ⟨zW HBW.out GWS914.out GW910.out GW922.out⟩⟩
    case rest =>
     clear HC39
     try clear c1
     try clear c2
     try clear c3
     try clear c4
     try clear c6
     try clear c7
     try clear c9
     try clear hx9
     try clear c10
     try clear c11
     try clear c20
     try clear c22
     try clear c23
     try clear c24
     try clear c27
     try clear c28
     try clear c29
     try clear c32
     try clear c33
     try clear c34
     try clear c41
     try clear c43
     try clear c44
     try clear hcz12_0
     try clear hcz12_1
     try clear hcz45_0
     try clear hcz45_1
     try clear hfz12_0
     try clear hfz12_1
     try clear hfz45_0
     try clear hfz45_1
     try clear hx936_0
     try clear hx940_0
     try clear hx944_0
     try clear hx948_0
     obtain ⟨kq, x14_38, x915001_38, x915002_38, HA, HJ38, HO_13, HO_14, HO_923001, BK910, BK922, HI914, HB, HBW⟩ := hcut
     cases kq with
     | zero => exact absurd HA.out (by simp [spec_l05Two.j1])
     | succ kj38 =>
      have H := HA.out
      clear HA
      simp only [spec_l05Two.j1] at H
      obtain ⟨t960, A47, H⟩ := zb H
      try dsimp only at H
      by_cases c48 : t960 = true
      ·subst c48
       rw [if_pos rfl] at H
       obtain ⟨⟨t961, t964, t965⟩, A49, H⟩ := zb H
       try dsimp only at H
       obtain ⟨⟨t966, t969, t970⟩, A50, H⟩ := zb H
       try dsimp only at H
       simp only [Option.some.injEq, Prod.mk.injEq] at H
       obtain ⟨rfl, rfl, rfl, rfl, rfl, rfl, rfl⟩ := H
       have hnb51 := NB922_910.out
       have hnc51 := NB910_922.out
       have hnb52 := NB922_914.out
       have hnc52 := NB914_922.out
       obtain ⟨hcz53_0, hcz53_1, hfz53_0, hfz53_1⟩ := zB3 BK922.out
       obtain ⟨Ao54, co54, eo54⟩ := kM HO_14.out
       subst eo54
       try go_wp2_with (first | (refine zO (some 83) Tryd.func77 #[.agg #[.int .i64 t915, .slice Ao13 t916.length co13], .slice Ao54 x14_38.length co54] ?_; (with_reducible refine (spec_l03Is.calls kj38 t915 _ _ t916 _ _ x14_38 true _ ?side1 ?side2 ?side3 ?side4 A47.out).mono ?_); (case side1 => exact zS (kB HO_923001.out).2.2); (case side2 => exact (kB HO_923001.out).2.1); (case side3 => exact zS (kB HO_14.out).2.2); (case side4 => exact (kB HO_14.out).2.1); rintro e w55 ⟨rfl, hb⟩; refine ⟨_, rfl, ?_⟩; replace HO_13 := zA (kL (zP HO_13.out) hb); replace HO_14 := zA (kL (zP HO_14.out) hb); replace HO_923001 := zA (kL (zP HO_923001.out) hb); replace BK910 := zA (zB1 BK910.out hb); replace BK922 := zA (zB1 BK922.out hb); replace HB := zA (kQ (zW HB.out (Z101.ge HI914.out) GE910.out GE922.out) hb); replace HI914 := zA (Z101.below (Z101.uC HI914.out NB914_910.out NB914_922.out) hb); replace HBW := zA (kQ (zW HBW.out GWS914.out GW910.out GW922.out) hb); (try clear hb); obtain ⟨hcz56_0, hcz56_1, hfz56_0, hfz56_1⟩ := zB3 BK922.out) | (refine zO (some 87) Tryd.func115 #[.pointer (some ⟨g914, 0, none⟩), .agg #[.int .i64 t915, .slice Ao13 t916.length co13], .slice Ao54 x14_38.length co54] ?_; (with_reducible refine (spec_l03Shuffle.calls kj38 g914 t911 x915001_38 x915002_38 t915 _ _ t916 _ _ x14_38 t961 t964 t965 w0 _ ?side1 ?side2 ?side3 ?side4 ?side5 ?side6 ?side7 ?side8 A49.out).mono ?_); (case side1 => exact Z101.uC HI914.out NB914_910.out NB914_922.out); (case side2 => exact zW HB.out (Z101.ge HI914.out) GE910.out GE922.out); (case side3 => exact zS (kB HO_923001.out).2.2); (case side4 => exact (kB HO_923001.out).2.1); (case side5 => exact jJ (Z101.own_ne HI914.out HO_923001.out (by decide))); (case side6 => exact zS (kB HO_14.out).2.2); (case side7 => exact (kB HO_14.out).2.1); (case side8 => exact jJ (Z101.own_ne HI914.out HO_14.out (by decide))); rintro e w57 ⟨v962, rfl, ho0, hi, hb, hk⟩; refine ⟨_, rfl, ?_⟩; replace BK910 := zA (zB2 hk BK910.out NB910_914.out); replace BK922 := zA (zB2 hk BK922.out NB922_914.out); have HO963 := zA (kI (kF (kF (kF ho0 (kH (zP HO_13.out))) (kH (zP HO_14.out))) (kH (zP HO_923001.out))) (kP (zW HBW.out GWS914.out GW910.out GW922.out))); replace HO_13 := zA (kA (Kd.R_told (Kd.R_oldK (Z101.apart (show Z101 w0 _ g914 t911 x915001_38 x915002_38 from Z101.uC HI914.out NB914_910.out NB914_922.out) (zP HO_13.out) (by decide)) hk) (kC ho0)) (fun _ h_ => h_.1)); replace HO_14 := zA (kA (Kd.R_told (Kd.R_oldK (Z101.apart (show Z101 w0 _ g914 t911 x915001_38 x915002_38 from Z101.uC HI914.out NB914_910.out NB914_922.out) (zP HO_14.out) (by decide)) hk) (kC ho0)) (fun _ h_ => h_.1)); replace HO_923001 := zA (kA (Kd.R_told (Kd.R_oldK (Z101.apart (show Z101 w0 _ g914 t911 x915001_38 x915002_38 from Z101.uC HI914.out NB914_910.out NB914_922.out) (zP HO_923001.out) (by decide)) hk) (kC ho0)) (fun _ h_ => h_.1)); replace HBW := zA (Z101.below_keepW HB00.out (zW HBW.out GWS914.out GW910.out GW922.out) hk hb GWS914.out); replace HB := zA (hb); replace HI914 := zA (hi); (try clear hb); (try clear hk); (try clear hi); (try clear ho0)))
       have n0_ := zA (zH HO_13.out)
       have n1_ := zA (zH HO_14.out)
       have n2_ := zA (zH HO_923001.out)
       have n3_ := zA (zH HO963.out)
       have n4_ := zA (zK BK910.out)
       have n5_ := zA (zK BK922.out)
       have n6_ := zA (Z101.drew HI914.out)
       have n7_ := zA (zD HB.out)
       have n7w_ := zA (zD HBW.out)
       clear HO_13 HO_14 HO_923001 HO963 BK910 BK922 HI914 HB HBW
       have HO_13 := n0_
       have HO_14 := n1_
       have HO_923001 := n2_
       have HO963 := n3_
       have BK910 := n4_
       have BK922 := n5_
       have HI914 := n6_
       have HB := n7_
       have HBW := n7w_
       clear n0_ n1_ n2_ n3_ n4_ n5_ n6_ n7_
       obtain ⟨Ao59, co59, eo59⟩ := kM HO_13.out
       (first | subst eo59 | (injection eo59 with f1_ f2_ f3_; have f4_ := f1_.symm; have f5_ := f3_.symm; clear f1_ f2_ f3_; subst f4_; subst f5_))
       refine start_ (n := 11) (S := fun w' => w'.cell? ⟨gb922, 0, none⟩ = some (.int .i64 t915) ∧ w'.cell? ⟨gb922, 1, none⟩ = some (.slice Ao13 t916.length co13)) (ds := []) #[false, false, false, false, false, false, false, false, false, false, false] (by kernel_rfl) rfl rfl ⟨(kV BK922.out 0).trans rfl, (kV BK922.out 1).trans rfl⟩ (fun hHeld => ?_); refine with_tabW spec_l05Two.tab19 spec_l05Two.bits19 (fun HT_ HW_ => ?_)
       generalize w57.drew = w58 at HO_13 HO_14 HO_923001 HO963 BK910 BK922 HI914 HB HBW hHeld ⊢
       refine zp 0 (some 88) #[true, false, false, false, false, false, false, false, false, false, false] HT_.out ?_
       refine zp 2 (some 90) #[true, false, true, false, false, false, false, false, false, false, false] HT_.out ?_
       refine zp 4 (some 92) #[true, false, true, false, true, false, false, false, false, false, false] HT_.out ?_
       refine zp 6 (some 94) #[true, false, true, false, true, false, true, false, false, false, false] HT_.out ?_
       refine zc 1 (some 89) #[true, true, true, false, true, false, true, false, false, false, false] HT_.out HW_.out hHeld ?_
       refine zc 3 (some 91) #[true, true, true, true, true, false, true, false, false, false, false] HT_.out HW_.out hHeld ?_
       refine one_ (i := 5) (N := some 93) #[true, true, true, true, true, true, true, false, false, false, false] rfl rfl (one_of HT_.out (by kernel_rfl)) (by decide) (fun K hK => ?_)
       refine goes_ Tryd.func115 (by kernel_rfl) rfl #[.pointer (some ⟨g914, 0, none⟩), .agg #[.int .i64 t915, .slice Ao13 t916.length co13], .slice Ao59 x13_1.length co59] (by rfl) rfl rfl zg ?_
       with_reducible refine (spec_l03Shuffle.calls kj38 g914 t911 t964 t965 t915 _ _ t916 _ _ x13_1 t966 t969 t970 w0 _ ?side1 ?side2 ?side3 ?side4 ?side5 ?side6 ?side7 ?side8 A50.out).mono ?_
       (case side1 => exact Z101.uC HI914.out NB914_910.out NB914_922.out)
       (case side2 => exact zW HB.out (Z101.ge HI914.out) GE910.out GE922.out)
       (case side3 => exact zS (kB HO_923001.out).2.2)
       (case side4 => exact (kB HO_923001.out).2.1)
       (case side5 => exact jJ (Z101.own_ne HI914.out HO_923001.out (by decide)))
       (case side6 => exact zS (kB HO_13.out).2.2)
       (case side7 => exact (kB HO_13.out).2.1)
       (case side8 => exact jJ (Z101.own_ne HI914.out HO_13.out (by decide)))
       rintro e w60 ⟨v967, rfl, ho0, hi, hb, hk⟩
       refine ⟨_, rfl, ?_⟩
       replace BK910 := zA (zB2 hk BK910.out NB910_914.out)
       replace BK922 := zA (zB2 hk BK922.out NB922_914.out)
       have HO968 := zA (kI (kF (kF (kF (kF ho0 (kH (zP HO_13.out))) (kH (zP HO_14.out))) (kH (zP HO_923001.out))) (kH (zP HO963.out))) (kP (zW HBW.out GWS914.out GW910.out GW922.out)))
       replace HO_13 := zA (kA (Kd.R_told (Kd.R_oldK (Z101.apart (show Z101 w0 _ g914 t911 t964 t965 from Z101.uC HI914.out NB914_910.out NB914_922.out) (zP HO_13.out) (by decide)) hk) (kC ho0)) (fun _ h_ => h_.1))
       replace HO_14 := zA (kA (Kd.R_told (Kd.R_oldK (Z101.apart (show Z101 w0 _ g914 t911 t964 t965 from Z101.uC HI914.out NB914_910.out NB914_922.out) (zP HO_14.out) (by decide)) hk) (kC ho0)) (fun _ h_ => h_.1))
       replace HO_923001 := zA (kA (Kd.R_told (Kd.R_oldK (Z101.apart (show Z101 w0 _ g914 t911 t964 t965 from Z101.uC HI914.out NB914_910.out NB914_922.out) (zP HO_923001.out) (by decide)) hk) (kC ho0)) (fun _ h_ => h_.1))
       replace HO963 := zA (kA (Kd.R_told (Kd.R_oldK (Z101.apart (show Z101 w0 _ g914 t911 t964 t965 from Z101.uC HI914.out NB914_910.out NB914_922.out) (zP HO963.out) (by decide)) hk) (kC ho0)) (fun _ h_ => h_.1))
       replace HBW := zA (Z101.below_keepW HB00.out (zW HBW.out GWS914.out GW910.out GW922.out) hk hb GWS914.out)
       replace HB := zA (hb)
       replace HI914 := zA (hi)
       (try clear hb)
       (try clear hb2)
       (try clear hk)
       (try clear hi)
       (try clear hgw)
       (try clear ho0)
       refine hK.out _ _ ⟨(kV BK922.out 0).trans rfl, (kV BK922.out 1).trans rfl⟩ (fun hHeld => ?_)
       clear hK K
       refine norm_ (a' := ?_) ?_ ?_
       rotate_left
       ·show Act.put _ (some 93) _ = _
        simp only [Act.put, zL, zM, zN, i64_w, i32_w]
        rfl
       refine zp 7 (some 6) #[true, true, true, true, true, true, true, true, false, false, false] HT_.out ?_
       refine one_ (i := 8) (N := none) #[true, true, true, true, true, true, true, true, true, false, false] rfl rfl (one_of HT_.out (by kernel_rfl)) (by decide) (fun K hK => ?_)
       have hs61 : w60.cell? ⟨gb910, 0, none⟩ = some (.int .i64 0) := (kV BK910.out 0).trans rfl
       have hfs61 := jH BK910.out 0
       have hns61_1 := NB922_910.out
       have hms61_1 := NB910_922.out
       have hs62 : w60.cell? ⟨gb910, 1, none⟩ = some (.slice none 0 0) := (kV BK910.out 1).trans rfl
       have hfs62 := jH BK910.out 1
       have hns62_1 := NB922_910.out
       have hms62_1 := NB910_922.out
       refine skip_ (w1 := ?_) (by rfl) rfl ?_ ?_
       rotate_left
       ·go_simp
        rfl
       refine hK.out _ _ ⟨((cell_far (p := ⟨gb910, _, none⟩) NB922_910.out _).trans (((cell_far (p := ⟨gb910, _, none⟩) NB922_910.out _).trans (hHeld.1)))), ((cell_far (p := ⟨gb910, _, none⟩) NB922_910.out _).trans (((cell_far (p := ⟨gb910, _, none⟩) NB922_910.out _).trans (hHeld.2))))⟩ (fun hHeld => ?_)
       clear hK K
       refine zp 9 (some 8) #[true, true, true, true, true, true, true, true, true, true, false] HT_.out ?_
       refine zp 10 (some 9) #[true, true, true, true, true, true, true, true, true, true, true] HT_.out ?_
       refine done_ (done_of HT_.out (by kernel_rfl)) ?_
       try go_wp2
       refine bodyPost_ret (results_list (rs := [.tmp 6, .cell 7 26, .tmp 8, .tmp 9]) rfl (by simp) (.tmp (.cell gb910 26 #[.int .i64 t915, .slice Ao13 t916.length co13] (0, 0) _ rfl (zRP BK910.out) Tryd.underlying26 rfl (by kernel_rfl) (.tmp (.tmp .nil))))) rfl ?_
       exact ⟨_, _, _, _, zr, by (with_reducible repeat (first | apply zF | apply zG | apply zH)); exact kA (kY (p := ⟨gb910, 1, none⟩) (kY (p := ⟨gb910, 0, none⟩) (kD HO_923001.out BK910.out (by decide)) (fun _ hk => hk.2) (.int .i64 t915)) (fun _ hk => hk.2) (.slice Ao13 t916.length co13)) (fun _ hk => ⟨hk.1.2, hk.1.1.2⟩), by (with_reducible repeat (first | apply zF | apply zG | apply zH)); exact kA (kY (p := ⟨gb910, 1, none⟩) (kY (p := ⟨gb910, 0, none⟩) (kD HO968.out BK910.out (by decide)) (fun _ hk => hk.2) (.int .i64 t915)) (fun _ hk => hk.2) (.slice Ao13 t916.length co13)) (fun _ hk => ⟨hk.1.1.2, hk.1.2⟩), by (with_reducible repeat (first | apply zF | apply zG | apply zH)); exact kA (kY (p := ⟨gb910, 1, none⟩) (kY (p := ⟨gb910, 0, none⟩) (kD HO963.out BK910.out (by decide)) (fun _ hk => hk.2) (.int .i64 t915)) (fun _ hk => hk.2) (.slice Ao13 t916.length co13)) (fun _ hk => ⟨hk.1.1.2, hk.1.2⟩), (show Z101 w0 _ g914 t911 t969 t970 from Z101.uC HI914.out NB914_910.out NB914_922.out), zW HB.out (Z101.ge HI914.out) GE910.out GE922.out, zW HBW.out GWS914.out GW910.out GW922.out, GWS914.out⟩
      replace c48 := Bool.eq_false_iff.mpr c48
      subst c48
      rw [if_neg (show ¬ (false = true) by decide)] at H
      obtain ⟨⟨t971, t974, t975⟩, A63, H⟩ := zb H
      try dsimp only at H
      simp only [Option.some.injEq, Prod.mk.injEq] at H
      obtain ⟨rfl, rfl, rfl, rfl, rfl, rfl, rfl⟩ := H
      have hnb64 := NB922_910.out
      have hnc64 := NB910_922.out
      have hnb65 := NB922_914.out
      have hnc65 := NB914_922.out
      obtain ⟨hcz66_0, hcz66_1, hfz66_0, hfz66_1⟩ := zB3 BK922.out
      obtain ⟨Ao67, co67, eo67⟩ := kM HO_14.out
      subst eo67
      try go_wp2_with (first | (refine zO (some 83) Tryd.func77 #[.agg #[.int .i64 t915, .slice Ao13 t916.length co13], .slice Ao67 x14_38.length co67] ?_; (with_reducible refine (spec_l03Is.calls kj38 t915 _ _ t916 _ _ x14_38 false _ ?side1 ?side2 ?side3 ?side4 A47.out).mono ?_); (case side1 => exact zS (kB HO_923001.out).2.2); (case side2 => exact (kB HO_923001.out).2.1); (case side3 => exact zS (kB HO_14.out).2.2); (case side4 => exact (kB HO_14.out).2.1); rintro e w68 ⟨rfl, hb⟩; refine ⟨_, rfl, ?_⟩; replace HO_13 := zA (kL (zP HO_13.out) hb); replace HO_14 := zA (kL (zP HO_14.out) hb); replace HO_923001 := zA (kL (zP HO_923001.out) hb); replace BK910 := zA (zB1 BK910.out hb); replace BK922 := zA (zB1 BK922.out hb); replace HB := zA (kQ (zW HB.out (Z101.ge HI914.out) GE910.out GE922.out) hb); replace HI914 := zA (Z101.below (Z101.uC HI914.out NB914_910.out NB914_922.out) hb); replace HBW := zA (kQ (zW HBW.out GWS914.out GW910.out GW922.out) hb); (try clear hb)))
      have n0_ := zA (zH HO_13.out)
      have n1_ := zA (zH HO_14.out)
      have n2_ := zA (zH HO_923001.out)
      have n3_ := zA (zK BK910.out)
      have n4_ := zA (zK BK922.out)
      have n5_ := zA (Z101.drew HI914.out)
      have n6_ := zA (zD HB.out)
      have n6w_ := zA (zD HBW.out)
      clear HO_13 HO_14 HO_923001 BK910 BK922 HI914 HB HBW
      have HO_13 := n0_
      have HO_14 := n1_
      have HO_923001 := n2_
      have BK910 := n3_
      have BK922 := n4_
      have HI914 := n5_
      have HB := n6_
      have HBW := n6w_
      clear n0_ n1_ n2_ n3_ n4_ n5_ n6_
      obtain ⟨Ao70, co70, eo70⟩ := kM HO_13.out
      (first | subst eo70 | (injection eo70 with f1_ f2_ f3_; have f4_ := f1_.symm; have f5_ := f3_.symm; clear f1_ f2_ f3_; subst f4_; subst f5_))
      refine start_ (n := 11) (S := fun w' => w'.cell? ⟨gb922, 0, none⟩ = some (.int .i64 t915) ∧ w'.cell? ⟨gb922, 1, none⟩ = some (.slice Ao13 t916.length co13)) (ds := []) #[false, false, false, false, false, false, false, false, false, false, false] (by kernel_rfl) rfl rfl ⟨(kV BK922.out 0).trans rfl, (kV BK922.out 1).trans rfl⟩ (fun hHeld => ?_); refine with_tabW spec_l05Two.tab19 spec_l05Two.bits19 (fun HT_ HW_ => ?_)
      generalize w68.drew = w69 at HO_13 HO_14 HO_923001 BK910 BK922 HI914 HB HBW hHeld ⊢
      refine zp 0 (some 88) #[true, false, false, false, false, false, false, false, false, false, false] HT_.out ?_
      refine zp 2 (some 90) #[true, false, true, false, false, false, false, false, false, false, false] HT_.out ?_
      refine zp 4 (some 92) #[true, false, true, false, true, false, false, false, false, false, false] HT_.out ?_
      refine zp 6 (some 94) #[true, false, true, false, true, false, true, false, false, false, false] HT_.out ?_
      refine zc 1 (some 89) #[true, true, true, false, true, false, true, false, false, false, false] HT_.out HW_.out hHeld ?_
      refine zc 3 (some 91) #[true, true, true, true, true, false, true, false, false, false, false] HT_.out HW_.out hHeld ?_
      refine one_ (i := 5) (N := some 93) #[true, true, true, true, true, true, true, false, false, false, false] rfl rfl (one_of HT_.out (by kernel_rfl)) (by decide) (fun K hK => ?_)
      refine goes_ Tryd.func115 (by kernel_rfl) rfl #[.pointer (some ⟨g914, 0, none⟩), .agg #[.int .i64 t915, .slice Ao13 t916.length co13], .slice Ao70 x13_1.length co70] (by rfl) rfl rfl zg ?_
      with_reducible refine (spec_l03Shuffle.calls kj38 g914 t911 x915001_38 x915002_38 t915 _ _ t916 _ _ x13_1 t971 t974 t975 w0 _ ?side1 ?side2 ?side3 ?side4 ?side5 ?side6 ?side7 ?side8 A63.out).mono ?_
      (case side1 => exact Z101.uC HI914.out NB914_910.out NB914_922.out)
      (case side2 => exact zW HB.out (Z101.ge HI914.out) GE910.out GE922.out)
      (case side3 => exact zS (kB HO_923001.out).2.2)
      (case side4 => exact (kB HO_923001.out).2.1)
      (case side5 => exact jJ (Z101.own_ne HI914.out HO_923001.out (by decide)))
      (case side6 => exact zS (kB HO_13.out).2.2)
      (case side7 => exact (kB HO_13.out).2.1)
      (case side8 => exact jJ (Z101.own_ne HI914.out HO_13.out (by decide)))
      rintro e w71 ⟨v972, rfl, ho0, hi, hb, hk⟩
      refine ⟨_, rfl, ?_⟩
      replace BK910 := zA (zB2 hk BK910.out NB910_914.out)
      replace BK922 := zA (zB2 hk BK922.out NB922_914.out)
      have HO973 := zA (kI (kF (kF (kF ho0 (kH (zP HO_13.out))) (kH (zP HO_14.out))) (kH (zP HO_923001.out))) (kP (zW HBW.out GWS914.out GW910.out GW922.out)))
      replace HO_13 := zA (kA (Kd.R_told (Kd.R_oldK (Z101.apart (show Z101 w0 _ g914 t911 x915001_38 x915002_38 from Z101.uC HI914.out NB914_910.out NB914_922.out) (zP HO_13.out) (by decide)) hk) (kC ho0)) (fun _ h_ => h_.1))
      replace HO_14 := zA (kA (Kd.R_told (Kd.R_oldK (Z101.apart (show Z101 w0 _ g914 t911 x915001_38 x915002_38 from Z101.uC HI914.out NB914_910.out NB914_922.out) (zP HO_14.out) (by decide)) hk) (kC ho0)) (fun _ h_ => h_.1))
      replace HO_923001 := zA (kA (Kd.R_told (Kd.R_oldK (Z101.apart (show Z101 w0 _ g914 t911 x915001_38 x915002_38 from Z101.uC HI914.out NB914_910.out NB914_922.out) (zP HO_923001.out) (by decide)) hk) (kC ho0)) (fun _ h_ => h_.1))
      replace HBW := zA (Z101.below_keepW HB00.out (zW HBW.out GWS914.out GW910.out GW922.out) hk hb GWS914.out)
      replace HB := zA (hb)
      replace HI914 := zA (hi)
      (try clear hb)
      (try clear hb2)
      (try clear hk)
      (try clear hi)
      (try clear hgw)
      (try clear ho0)
      refine hK.out _ _ ⟨(kV BK922.out 0).trans rfl, (kV BK922.out 1).trans rfl⟩ (fun hHeld => ?_)
      clear hK K
      refine norm_ (a' := ?_) ?_ ?_
      rotate_left
      ·show Act.put _ (some 93) _ = _
       simp only [Act.put, zL, zM, zN, i64_w, i32_w]
       rfl
      refine zp 7 (some 6) #[true, true, true, true, true, true, true, true, false, false, false] HT_.out ?_
      refine one_ (i := 8) (N := none) #[true, true, true, true, true, true, true, true, true, false, false] rfl rfl (one_of HT_.out (by kernel_rfl)) (by decide) (fun K hK => ?_)
      have hs72 : w71.cell? ⟨gb910, 0, none⟩ = some (.int .i64 0) := (kV BK910.out 0).trans rfl
      have hfs72 := jH BK910.out 0
      have hns72_1 := NB922_910.out
      have hms72_1 := NB910_922.out
      have hs73 : w71.cell? ⟨gb910, 1, none⟩ = some (.slice none 0 0) := (kV BK910.out 1).trans rfl
      have hfs73 := jH BK910.out 1
      have hns73_1 := NB922_910.out
      have hms73_1 := NB910_922.out
      refine skip_ (w1 := ?_) (by rfl) rfl ?_ ?_
      rotate_left
      ·go_simp
       rfl
      refine hK.out _ _ ⟨((cell_far (p := ⟨gb910, _, none⟩) NB922_910.out _).trans (((cell_far (p := ⟨gb910, _, none⟩) NB922_910.out _).trans (hHeld.1)))), ((cell_far (p := ⟨gb910, _, none⟩) NB922_910.out _).trans (((cell_far (p := ⟨gb910, _, none⟩) NB922_910.out _).trans (hHeld.2))))⟩ (fun hHeld => ?_)
      clear hK K
      refine zp 9 (some 8) #[true, true, true, true, true, true, true, true, true, true, false] HT_.out ?_
      refine zp 10 (some 9) #[true, true, true, true, true, true, true, true, true, true, true] HT_.out ?_
      refine done_ (done_of HT_.out (by kernel_rfl)) ?_
      try go_wp2
      refine bodyPost_ret (results_list (rs := [.tmp 6, .cell 7 26, .tmp 8, .tmp 9]) rfl (by simp) (.tmp (.cell gb910 26 #[.int .i64 t915, .slice Ao13 t916.length co13] (0, 0) _ rfl (zRP BK910.out) Tryd.underlying26 rfl (by kernel_rfl) (.tmp (.tmp .nil))))) rfl ?_
      exact ⟨_, _, _, _, zr, by (with_reducible repeat (first | apply zF | apply zG | apply zH)); exact kA (kY (p := ⟨gb910, 1, none⟩) (kY (p := ⟨gb910, 0, none⟩) (kD HO_923001.out BK910.out (by decide)) (fun _ hk => hk.2) (.int .i64 t915)) (fun _ hk => hk.2) (.slice Ao13 t916.length co13)) (fun _ hk => ⟨hk.1.2, hk.1.1.2⟩), by (with_reducible repeat (first | apply zF | apply zG | apply zH)); exact kA (kY (p := ⟨gb910, 1, none⟩) (kY (p := ⟨gb910, 0, none⟩) (kD HO973.out BK910.out (by decide)) (fun _ hk => hk.2) (.int .i64 t915)) (fun _ hk => hk.2) (.slice Ao13 t916.length co13)) (fun _ hk => ⟨hk.1.2, hk.1.1.2⟩), by (with_reducible repeat (first | apply zF | apply zG | apply zH)); exact kA (kY (p := ⟨gb910, 1, none⟩) (kY (p := ⟨gb910, 0, none⟩) (kD HO_14.out BK910.out (by decide)) (fun _ hk => hk.2) (.int .i64 t915)) (fun _ hk => hk.2) (.slice Ao13 t916.length co13)) (fun _ hk => ⟨hk.1.1.2, hk.1.2⟩), (show Z101 w0 _ g914 t911 t974 t975 from Z101.uC HI914.out NB914_910.out NB914_922.out), zW HB.out (Z101.ge HI914.out) GE910.out GE922.out, zW HBW.out GWS914.out GW910.out GW922.out, GWS914.out⟩
 replace c6 := Bool.eq_false_iff.mpr c6
 subst c6
 rw [if_neg (show ¬ (false = true) by decide)] at H
 obtain ⟨y924, hy924⟩ : ∃ y_ : List Int, y_ = (([0] : List Int)) := ⟨_, rfl⟩
 replace H : (some (t911, t912, t913, t915, t916, t919, y924)) = some (r1, r2, r3, r4, r5, r6, r7) := zy hy924 H
 have Ny924 := zA hy924
 clear hy924
 simp only [Option.some.injEq, Prod.mk.injEq] at H
 obtain ⟨rfl, rfl, rfl, rfl, rfl, rfl, rfl⟩ := H
 go_enter Tryd.func75, Tryd.ntmps75
 try go_wp2_with (first | (refine zBE 7 #[.int .i64 0, .slice none 0 0] 26 ?_; intro gb910 hg w74 hbox hb; replace HB := zA (kQ (zQ HB.out) hb); have BK910 := zA (hbox); have GW910 := zA (zBH hg HBW.out); have GE910 := zA ((Nat.le_trans HW0.out (by rw [hg]; exact (kP (zQ HBW.out)) : w.heap.size ≤ gb910) : w0.heap.size ≤ gb910)); replace HBW := zA (kQ HBW.out hb); clear hb hbox hg) | (refine zO (some 20) Tryd.func48 #[.slice A0 l0.length c0, .int .i64 a1, .int .i64 a2] ?_; (with_reducible refine (spec_l03Pair.calls k _ _ l0 a1 a2 t911 t912 t913 t915 t916 t919 w0 _ ?side1 ?side2 ?side3 A4.out).mono ?_); (case side1 => exact zT HB.out GE910.out); (case side2 => exact HR0.out); (case side3 => exact HC0.out); rintro e w75 ⟨v917, v920, g914, rfl, ho0, ho1, hi, hb, hb2, hgw⟩; refine ⟨_, rfl, ?_⟩; have HO918 := zA (kI ho0 (kP (zT HBW.out GW910.out))); have HO921 := zA (kI ho1 (kP (zT HBW.out GW910.out))); have GWS914 := zA ((Nat.le_trans (kP (zT HBW.out GW910.out)) hgw : w.heap.size ≤ g914)); replace HBW := zA (kQ (zT HBW.out GW910.out) hb2); replace HB := zA (hb); have HI914 := zA (hi); have NB914_910 := zA (Z101.ne_blk hi (blk_below (g := gb910) (o := .cells #[.int .i64 0, .slice none 0 0] 26 (0, 0)) (zR BK910.out) hb2) (by decide)); have NB910_914 := zA (Ne.symm (Z101.ne_blk hi (blk_below (g := gb910) (o := .cells #[.int .i64 0, .slice none 0 0] 26 (0, 0)) (zR BK910.out) hb2) (by decide))); replace BK910 := zA (zB1 BK910.out hb2); (try clear hb); (try clear hb2); (try clear hi); (try clear hgw); (try clear ho0); (try clear ho1)) | (refine zBE 11 #[.int .i64 0, .slice none 0 0] 26 ?_; intro gb922 hg w76 hbox hb; replace HO918 := zA (kL (zP HO918.out) hb); replace HO921 := zA (kL (zP HO921.out) hb); replace HB := zA (kQ (zV HB.out (Z101.ge HI914.out) GE910.out) hb); have BK922 := zA (hbox); have GW922 := zA (zB6 hg (kP (zV HBW.out GWS914.out GW910.out)) : w.heap.size ≤ gb922); have GE922 := zA ((Nat.le_trans HW0.out (by rw [hg]; exact (kP (zV HBW.out GWS914.out GW910.out)) : w.heap.size ≤ gb922) : w0.heap.size ≤ gb922)); replace HBW := zA (kQ HBW.out hb); have NB910_922 := zA (zB4 hg BK910.out : gb910 ≠ gb922); have NB922_910 := zA (zB5 hg BK910.out : gb922 ≠ gb910); replace BK910 := zA (zB1 BK910.out hb); have NB914_922 := zA (zB7 hg (Z101.lt (show Z101 w0 _ g914 t911 t912 t913 from Z101.uB HI914.out NB914_910.out)) : g914 ≠ gb922); have NB922_914 := zA (zB8 hg (Z101.lt (show Z101 w0 _ g914 t911 t912 t913 from Z101.uB HI914.out NB914_910.out)) : gb922 ≠ g914); replace HI914 := zA (Z101.below (Z101.uB HI914.out NB914_910.out) hb); clear hb hbox hg; have hnb77 := NB922_910.out; have hnc77 := NB910_922.out; have hnb78 := NB922_914.out; have hnc78 := NB914_922.out; obtain ⟨hcz79_0, hcz79_1, hfz79_0, hfz79_1⟩ := zB3 BK922.out; obtain ⟨Ao80, co80, eo80⟩ := kM HO918.out; subst eo80; obtain ⟨Ao81, co81, eo81⟩ := kM HO921.out; subst eo81) | (refine zO (some 26) Tryd.func77 #[.agg #[.int .i64 t915, .slice Ao80 t916.length co80], .slice Ao81 t919.length co81] ?_; (with_reducible refine (spec_l03Is.calls k t915 _ _ t916 _ _ t919 false _ ?side1 ?side2 ?side3 ?side4 A5.out).mono ?_); (case side1 => refine (kB (e := 2) (base := w.heap.size) (ok := fun k_ => some k_ ≠ (.slice Ao81 t919.length co81 : Value).ownBlock) (n := t916.length) (c := co80) ?_).2.2; exact (zP (zFG HO918.out BK922.out (.int .i64 t915) (.slice Ao80 t916.length co80)))); (case side2 => exact (kB HO918.out).2.1); (case side3 => refine (kB (e := 2) (base := w.heap.size) (ok := fun k_ => some k_ ≠ (.slice Ao80 t916.length co80 : Value).ownBlock) (n := t919.length) (c := co81) ?_).2.2; exact (zP (zFG HO921.out BK922.out (.int .i64 t915) (.slice Ao80 t916.length co80)))); (case side4 => exact (kB HO921.out).2.1); rintro e w82 ⟨rfl, hb⟩; refine ⟨_, rfl, ?_⟩; replace HO918 := zA (kL (zP (zFG HO918.out BK922.out (.int .i64 t915) (.slice Ao80 t916.length co80))) hb); replace HO921 := zA (kL (zP (zFG HO921.out BK922.out (.int .i64 t915) (.slice Ao80 t916.length co80))) hb); replace BK910 := zA (blk_below (g := gb910) (o := .cells #[.int .i64 0, .slice none 0 0] 26 (0, 0)) (zBG BK910.out NB910_922.out NB910_922.out) hb); replace BK922 := zA (blk_below (g := gb922) (o := .cells #[.int .i64 t915, .slice Ao80 t916.length co80] 26 (0, 0)) (zRP BK922.out) hb); replace HB := zA (kQ (zW HB.out (Z101.ge HI914.out) GE910.out GE922.out) hb); replace HI914 := zA (Z101.below (show Z101 w0 ((w76.setCell ⟨gb922, 0, none⟩ (.int .i64 t915)).setCell ⟨gb922, 1, none⟩ (.slice Ao80 t916.length co80)) g914 t911 t912 t913 from Z101.uC HI914.out NB914_910.out NB914_922.out) hb); replace HBW := zA (kQ (zW HBW.out GWS914.out GW910.out GW922.out) hb); (try clear hb)))
 have n0_ := zA (zH HO918.out)
 have n1_ := zA (zH HO921.out)
 have n2_ := zA (zK BK910.out)
 have n3_ := zA (zK BK922.out)
 have n4_ := zA (Z101.drew HI914.out)
 have n5_ := zA (zD HB.out)
 have n5w_ := zA (zD HBW.out)
 clear HO918 HO921 BK910 BK922 HI914 HB HBW
 have HO918 := n0_
 have HO921 := n1_
 have BK910 := n2_
 have BK922 := n3_
 have HI914 := n4_
 have HB := n5_
 have HBW := n5w_
 clear n0_ n1_ n2_ n3_ n4_ n5_
 refine start_ (n := 8) (S := fun w' => w'.cell? ⟨gb922, 0, none⟩ = some (.int .i64 t915) ∧ w'.cell? ⟨gb922, 1, none⟩ = some (.slice Ao80 t916.length co80)) (ds := []) #[false, false, false, false, false, false, false, false] (by kernel_rfl) rfl rfl ⟨(kV BK922.out 0).trans rfl, (kV BK922.out 1).trans rfl⟩ (fun hHeld => ?_); refine with_tabW spec_l05Two.tab3 spec_l05Two.bits3 (fun HT_ HW_ => ?_)
 generalize w82.drew = w83 at HO918 HO921 BK910 BK922 HI914 HB HBW hHeld ⊢
 refine zp 0 (some 28) #[true, false, false, false, false, false, false, false] HT_.out ?_
 refine zp 2 (some 30) #[true, false, true, false, false, false, false, false] HT_.out ?_
 refine zp 4 (some 6) #[true, false, true, false, true, false, false, false] HT_.out ?_
 refine zc 1 (some 29) #[true, true, true, false, true, false, false, false] HT_.out HW_.out hHeld ?_
 refine join_ (σ := Value) 1 #[true, true, true, true, true, true, true, false] (fun s_ => [(31, s_), (8, .slice Ao81 t919.length co81)]) (fun s_ w' => (w'.cell? ⟨gb922, 0, none⟩ = some (.int .i64 t915) ∧ w'.cell? ⟨gb922, 1, none⟩ = some (.slice Ao80 t916.length co80)) ∧ (Kd.R (Kd.int .i64) 2 w' w.heap.size (fun k_ => some k_ ≠ (.slice Ao81 t919.length co81 : Value).ownBlock ∧ some k_ ≠ (s_ : Value).ownBlock) (.slice Ao80 t916.length co80) t916) ∧ (Kd.R (Kd.int .i64) 2 w' w.heap.size (fun k_ => some k_ ≠ (.slice Ao80 t916.length co80 : Value).ownBlock ∧ some k_ ≠ (s_ : Value).ownBlock) (.slice Ao81 t919.length co81) t919) ∧ (Kd.R (Kd.int .i64) 2 w' w.heap.size (fun k_ => some k_ ≠ (.slice Ao80 t916.length co80 : Value).ownBlock ∧ some k_ ≠ (.slice Ao81 t919.length co81 : Value).ownBlock) s_ y924) ∧ (w'.heap[gb910]? = some (.cells #[.int .i64 t915, .slice Ao80 t916.length co80] 26 (0, 0))) ∧ (w'.heap[gb922]? = some (.cells #[.int .i64 t915, .slice Ao80 t916.length co80] 26 (0, 0))) ∧ (Z101 w0 w' g914 t911 t912 t913) ∧ (Below w0.heap.size w0 w') ∧ (Below w.heap.size w w')) ?_ ?_
 rotate_left
 ·intro hCont
  refine two_ (i := 3) (j := 5) (Ni := some 31) (Nj := none) #[true, true, true, true, true, false, false, false] #[true, true, true, false, true, true, false, false] rfl rfl rfl rfl (two_of HT_.out (by kernel_rfl)) (by decide) (by decide) (fun K hK => ?_) (fun K hK => ?_)
  ·skip
   refine Kd.R_lit_step (Kd.int .i64) _ 2 ?hg (N := 31) ?hd (xs := ([0] : List Int)) (inner := [.int .i64 0]) (ok := fun _ => True) (okp := fun _ => True) ?hr ?hp (fun _ hk => hk) trivial (kW _ _) (Nat.le_refl _) (by simp) ?_; (case hd => rfl); (case hg => rfl); (case hr => first | (go_simp; done) | (go_simp; rfl)); (case hp => exact (Reps.one (show Kd.M (Kd.int .i64) _ _ _ 0 [.int .i64 0] from rfl) (Reps.none _ _)))
   intro v925 w84 ho85 hb hg_ hnew_
   clear hg_ hnew_
   (first | rw [← Ny924.out] at ho85 | (simp only [Int.reduceToNat] at ho85; rw [← Ny924.out] at ho85))
   have HO926 := zA (kI (kF (kF ho85 (kH (zP HO918.out))) (kH (zP HO921.out))) (kP (zW HBW.out GWS914.out GW910.out GW922.out)))
   replace HO918 := zA (kE (zP HO918.out) (kC ho85) hb)
   replace HO921 := zA (kE (zP HO921.out) (kC ho85) hb)
   replace BK910 := zA (zB1 BK910.out hb)
   replace BK922 := zA (zB1 BK922.out hb)
   replace HBW := zA (kQ (zW HBW.out GWS914.out GW910.out GW922.out) hb)
   replace HB := zA (kQ (zW HB.out (Z101.ge HI914.out) GE910.out GE922.out) hb)
   replace HI914 := zA (Z101.below (Z101.uC HI914.out NB914_910.out NB914_922.out) hb)
   clear hb ho85
   refine hK.out _ _ ⟨(kV BK922.out 0).trans rfl, (kV BK922.out 1).trans rfl⟩ (fun hHeld => ?_)
   clear hK K
   refine norm_ (a' := ?_) ?_ ?_
   rotate_left
   ·show Act.put _ (some 31) _ = _
    simp only [Act.put, zL, zM, zN, i64_w, i32_w]
    rfl
   refine one_ (i := 5) (N := none) #[true, true, true, true, true, true, false, false] rfl rfl (one_of HT_.out (by kernel_rfl)) (by decide) (fun K hK => ?_)
   have hs86 : w84.cell? ⟨gb910, 0, none⟩ = some (.int .i64 0) := (kV BK910.out 0).trans rfl
   have hfs86 := jH BK910.out 0
   have hns86_1 := NB922_910.out
   have hms86_1 := NB910_922.out
   have hs87 : w84.cell? ⟨gb910, 1, none⟩ = some (.slice none 0 0) := (kV BK910.out 1).trans rfl
   have hfs87 := jH BK910.out 1
   have hns87_1 := NB922_910.out
   have hms87_1 := NB910_922.out
   refine skip_ (w1 := ?_) (by rfl) rfl ?_ ?_
   rotate_left
   ·go_simp
    rfl
   refine hK.out _ _ ⟨((cell_far (p := ⟨gb910, _, none⟩) NB922_910.out _).trans (((cell_far (p := ⟨gb910, _, none⟩) NB922_910.out _).trans (hHeld.1)))), ((cell_far (p := ⟨gb910, _, none⟩) NB922_910.out _).trans (((cell_far (p := ⟨gb910, _, none⟩) NB922_910.out _).trans (hHeld.2))))⟩ (fun hHeld => ?_)
   clear hK K
   refine zp 6 (some 8) #[true, true, true, true, true, true, true, false] HT_.out ?_
   exact norm_ (by simp only [putAll, Act.put, zL, zM, zN]) (hCont (v925) _ ⟨hHeld, (by (with_reducible repeat (first | apply zF | apply zG | apply zH)); exact kA (kY (p := ⟨gb910, 1, none⟩) (kY (p := ⟨gb910, 0, none⟩) (kD HO918.out BK910.out (by decide)) (fun _ hk => hk.2) (.int .i64 t915)) (fun _ hk => hk.2) (.slice Ao80 t916.length co80)) (fun _ hk => ⟨hk.1.1, hk.1.2⟩)), (by (with_reducible repeat (first | apply zF | apply zG | apply zH)); exact kA (kY (p := ⟨gb910, 1, none⟩) (kY (p := ⟨gb910, 0, none⟩) (kD HO921.out BK910.out (by decide)) (fun _ hk => hk.2) (.int .i64 t915)) (fun _ hk => hk.2) (.slice Ao80 t916.length co80)) (fun _ hk => ⟨hk.1.1, hk.1.2⟩)), (by (with_reducible repeat (first | apply zF | apply zG | apply zH)); exact kA (kY (p := ⟨gb910, 1, none⟩) (kY (p := ⟨gb910, 0, none⟩) (kD HO926.out BK910.out (by decide)) (fun _ hk => hk.2) (.int .i64 t915)) (fun _ hk => hk.2) (.slice Ao80 t916.length co80)) (fun _ hk => ⟨hk.1.1.2, hk.1.2⟩)), (zRP BK910.out), (zBG BK922.out NB922_910.out NB922_910.out), (Z101.uC HI914.out NB914_910.out NB914_922.out), (zW HB.out (Z101.ge HI914.out) GE910.out GE922.out), (zW HBW.out GWS914.out GW910.out GW922.out)⟩)
  skip
  have hs84 : w83.cell? ⟨gb910, 0, none⟩ = some (.int .i64 0) := (kV BK910.out 0).trans rfl
  have hfs84 := jH BK910.out 0
  have hns84_1 := NB922_910.out
  have hms84_1 := NB910_922.out
  have hs85 : w83.cell? ⟨gb910, 1, none⟩ = some (.slice none 0 0) := (kV BK910.out 1).trans rfl
  have hfs85 := jH BK910.out 1
  have hns85_1 := NB922_910.out
  have hms85_1 := NB910_922.out
  refine skip_ (w1 := ?_) (by rfl) rfl ?_ ?_
  rotate_left
  ·go_simp
   rfl
  refine hK.out _ _ ⟨((cell_far (p := ⟨gb910, _, none⟩) NB922_910.out _).trans (((cell_far (p := ⟨gb910, _, none⟩) NB922_910.out _).trans (hHeld.1)))), ((cell_far (p := ⟨gb910, _, none⟩) NB922_910.out _).trans (((cell_far (p := ⟨gb910, _, none⟩) NB922_910.out _).trans (hHeld.2))))⟩ (fun hHeld => ?_)
  clear hK K
  refine zp 6 (some 8) #[true, true, true, false, true, true, true, false] HT_.out ?_
  refine one_ (i := 3) (N := some 31) #[true, true, true, true, true, true, true, false] rfl rfl (one_of HT_.out (by kernel_rfl)) (by decide) (fun K hK => ?_)
  refine Kd.R_lit_step (Kd.int .i64) _ 2 ?hg (N := 31) ?hd (xs := ([0] : List Int)) (inner := [.int .i64 0]) (ok := fun _ => True) (okp := fun _ => True) ?hr ?hp (fun _ hk => hk) trivial (kW _ _) (Nat.le_refl _) (by simp) ?_; (case hd => rfl); (case hg => rfl); (case hr => first | (go_simp; done) | (go_simp; rfl)); (case hp => exact (Reps.one (show Kd.M (Kd.int .i64) _ _ _ 0 [.int .i64 0] from rfl) (Reps.none _ _)))
  intro v925 w86 ho87 hb hg_ hnew_
  clear hg_ hnew_
  (first | rw [← Ny924.out] at ho87 | (simp only [Int.reduceToNat] at ho87; rw [← Ny924.out] at ho87))
  have HO926 := zA (kI (kF (kF ho87 (kH (zP (zFG HO918.out BK910.out (.int .i64 t915) (.slice Ao80 t916.length co80))))) (kH (zP (zFG HO921.out BK910.out (.int .i64 t915) (.slice Ao80 t916.length co80))))) (kP (zW HBW.out GWS914.out GW910.out GW922.out)))
  replace HO918 := zA (kE (zP (zFG HO918.out BK910.out (.int .i64 t915) (.slice Ao80 t916.length co80))) (kC ho87) hb)
  replace HO921 := zA (kE (zP (zFG HO921.out BK910.out (.int .i64 t915) (.slice Ao80 t916.length co80))) (kC ho87) hb)
  replace BK910 := zA (blk_below (g := gb910) (o := .cells #[.int .i64 t915, .slice Ao80 t916.length co80] 26 (0, 0)) (zRP BK910.out) hb)
  replace BK922 := zA (blk_below (g := gb922) (o := .cells #[.int .i64 t915, .slice Ao80 t916.length co80] 26 (0, 0)) (zBG BK922.out NB922_910.out NB922_910.out) hb)
  replace HBW := zA (kQ (zW HBW.out GWS914.out GW910.out GW922.out) hb)
  replace HB := zA (kQ (zW HB.out (Z101.ge HI914.out) GE910.out GE922.out) hb)
  replace HI914 := zA (Z101.below (show Z101 w0 ((w83.setCell ⟨gb910, 0, none⟩ (.int .i64 t915)).setCell ⟨gb910, 1, none⟩ (.slice Ao80 t916.length co80)) g914 t911 t912 t913 from Z101.uC HI914.out NB914_910.out NB914_922.out) hb)
  clear hb ho87
  refine hK.out _ _ ⟨(kV BK922.out 0).trans rfl, (kV BK922.out 1).trans rfl⟩ (fun hHeld => ?_)
  clear hK K
  refine norm_ (a' := ?_) ?_ ?_
  rotate_left
  ·show Act.put _ (some 31) _ = _
   simp only [Act.put, zL, zM, zN, i64_w, i32_w]
   rfl
  exact norm_ (by simp only [putAll, Act.put, zL, zM, zN]) (hCont (v925) _ ⟨hHeld, (zP HO918.out), (zP HO921.out), (by (with_reducible repeat (first | apply zF | apply zG | apply zH)); exact kA HO926.out (fun _ hk => ⟨hk.1.2, hk.2⟩)), (zR BK910.out), (zR BK922.out), (Z101.uC HI914.out NB914_910.out NB914_922.out), (zW HB.out (Z101.ge HI914.out) GE910.out GE922.out), (zW HBW.out GWS914.out GW910.out GW922.out)⟩)
 rintro v925 w88 ⟨hS_, h0_, h1_, h2_, h3_, h4_, h5_, h6_, h7_⟩
 have n0_ : Aside0 (Kd.R (Kd.int .i64) 2 w88 w.heap.size (fun k_ => some k_ ≠ (.slice Ao81 t919.length co81 : Value).ownBlock ∧ some k_ ≠ (v925 : Value).ownBlock) (.slice Ao80 t916.length co80) t916) := ⟨h0_⟩
 have n1_ : Aside0 (Kd.R (Kd.int .i64) 2 w88 w.heap.size (fun k_ => some k_ ≠ (.slice Ao80 t916.length co80 : Value).ownBlock ∧ some k_ ≠ (v925 : Value).ownBlock) (.slice Ao81 t919.length co81) t919) := ⟨h1_⟩
 have n2_ : Aside0 (Kd.R (Kd.int .i64) 2 w88 w.heap.size (fun k_ => some k_ ≠ (.slice Ao80 t916.length co80 : Value).ownBlock ∧ some k_ ≠ (.slice Ao81 t919.length co81 : Value).ownBlock) v925 y924) := ⟨h2_⟩
 have n3_ : Aside0 (w88.heap[gb910]? = some (.cells #[.int .i64 t915, .slice Ao80 t916.length co80] 26 (0, 0))) := ⟨h3_⟩
 have n4_ : Aside0 (w88.heap[gb922]? = some (.cells #[.int .i64 t915, .slice Ao80 t916.length co80] 26 (0, 0))) := ⟨h4_⟩
 have n5_ : Aside0 (Z101 w0 w88 g914 t911 t912 t913) := ⟨h5_⟩
 have n6_ : Aside0 (Below w0.heap.size w0 w88) := ⟨h6_⟩
 have n7_ : Aside0 (Below w.heap.size w w88) := ⟨h7_⟩
 clear HO918 HO921 BK910 BK922 HI914 HB HBW h0_ h1_ h2_ h3_ h4_ h5_ h6_ h7_
 have HO918 := n0_
 have HO921 := n1_
 have HO926 := n2_
 have BK910 := n3_
 have BK922 := n4_
 have HI914 := n5_
 have HB := n6_
 have HBW := n7_
 clear n0_ n1_ n2_ n3_ n4_ n5_ n6_ n7_
 have hHeld : w88.cell? ⟨gb922, 0, none⟩ = some (.int .i64 t915) ∧ w88.cell? ⟨gb922, 1, none⟩ = some (.slice Ao80 t916.length co80) := hS_
 refine norm_ (a' := ?_) ?_ ?_
 rotate_left
 ·simp only [putAll, Act.put, zL, zM, zN]
  rfl
 refine zp 7 (some 9) #[true, true, true, true, true, true, true, true] HT_.out ?_
 refine done_ (done_of HT_.out (by kernel_rfl)) ?_
 try go_wp2
 refine bodyPost_ret (results_list (rs := [.tmp 6, .cell 7 26, .tmp 8, .tmp 9]) rfl (by simp) (.tmp (.cell gb910 26 #[.int .i64 t915, .slice Ao80 t916.length co80] (0, 0) _ rfl (zR BK910.out) Tryd.underlying26 rfl (by kernel_rfl) (.tmp (.tmp .nil))))) rfl ?_
 exact ⟨_, _, _, _, zr, zP HO918.out, zP HO921.out, zP HO926.out, (show Z101 w0 _ g914 t911 t912 t913 from Z101.uC HI914.out NB914_910.out NB914_922.out), zW HB.out (Z101.ge HI914.out) GE910.out GE922.out, zW HBW.out GWS914.out GW910.out GW922.out, GWS914.out⟩
end Go.Proofs.YtkiacoilecdepaaDoor.PAll
