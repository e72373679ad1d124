-- Printed by a program of the session (wip/tools/pgen.py) out of the translation. Not trusted: Lean checks it.
import Derived.Test.YtinkolnhpgilpaaDoorPAllx0
import Derived.Test.YtinkolnhpgilpaaDoorPAllx1
import Derived.Test.YtinkolnhpgilpaaDoorPAllx2
import Derived.Test.YtinkolnhpgilpaaDoorPAllx3
namespace Go.Proofs.YtinkolnhpgilpaaDoor.PAll
open Go.RowKit Go.Proofs.YtinkolnhpgilpaaDoor.T Go.Proofs.YtinkolnhpgilpaaDoorW.PrintWords Go.Proofs.YtinkolnhpgilpaaDoorW.PrintLast Go.Proofs.YtinkolnhpgilpaaDoorW.PrintMore
attribute [local go_sem] max2_int min2_int max_two min_two max_three min_three max_four min_four   -- for this text's walks alone
set_option linter.unusedVariables false
set_option linter.unusedSimpArgs false

/-! ### spec_ConjugatorOf: function 12 -/
mutual
def spec_ConjugatorOf.j0 : Nat → List Int → List Int → Int → Bool → Int → List Int → Option (List Int × Int)
 | 0, _, _, _, _, _, _ => none
 | k + 1, x1, x2, x9, x29, x385000, x385001 => if x29 = true then (spec_ConjugatorOf.j1 k x1 x2 4 x385000 x385001) else (spec_ConjugatorOf.j1 k x1 x2 x9 x385000 x385001)
def spec_ConjugatorOf.j1 : Nat → List Int → List Int → Int → Int → List Int → Option (List Int × Int)
 | 0, _, _, _, _, _ => none
 | k + 1, x1, x2, x9, x385000, x385001 => if x9 = 0 then ((spec_l03Normal.f k x385000 x385001 x1).bind fun t387 => ((spec_l03Normal.f k x385000 x385001 x2).bind fun t399 => (spec_ConjugatorOf.l0 k (([t387] : List (List Int))) (([(([] : List Int))] : List (List Int))) t399 0 x385000 x385001))) else (some (([] : List Int), x9))
def spec_ConjugatorOf.l0 : Nat → List (List Int) → List (List Int) → List Int → Int → Int → List Int → Option (List Int × Int)
 | 0, _, _, _, _, _, _ => none
 | k + 1, x10, x11, x12, x13, x385000, x385001 => if x13 < (x10.length : Int) then (if 0 ≤ x13 then ((spec_l01Same.f k (rd_L1 x10 x13) x12).bind fun t403 => (if t403 = true then (if x13 < (x11.length : Int) then (if ((rd_L1 x11 x13).length : Int) > 24 then (some (([] : List Int), 3)) else (some (rd_L1 x11 x13, 0))) else (none)) else (spec_ConjugatorOf.l1 k x10 x11 x12 x13 0 x385000 x385001))) else (none)) else (some (([] : List Int), 4))
def spec_ConjugatorOf.l1 : Nat → List (List Int) → List (List Int) → List Int → Int → Int → Int → List Int → Option (List Int × Int)
 | 0, _, _, _, _, _, _, _ => none
 | k + 1, x10, x11, x12, x13, x14, x385000, x385001 => if x14 < x385000 then (if 0 ≤ x13 then (if x13 < (x10.length : Int) then ((spec_l07Rotate.f k x385000 x385001 (rd_L1 x10 x13) x14).bind fun bt407 => (if bt407.2 = true then ((spec_l07Find.f k x10 bt407.1).bind fun t411 => (if t411 < 0 then (if x10.length < 5864062014805 then (if x13 < (x11.length : Int) then ((spec_l01Own.f (rd_L1 x11 x13)).bind fun t416 => (if t416.length < 17592186044416 then (if x11.length < 5864062014805 then (spec_ConjugatorOf.l1 k (x10 ++ [bt407.1]) (x11 ++ [(t416 ++ [x14])]) x12 x13 (wrap64 (x14 + 1)) x385000 x385001) else (none)) else (none))) else (none)) else (none)) else (spec_ConjugatorOf.l1 k x10 x11 x12 x13 (wrap64 (x14 + 1)) x385000 x385001))) else (spec_ConjugatorOf.l1 k x10 x11 x12 x13 (wrap64 (x14 + 1)) x385000 x385001))) else (none)) else (none)) else (spec_ConjugatorOf.l0 k x10 x11 x12 (wrap64 (x13 + 1)) x385000 x385001)
end
def spec_ConjugatorOf.f (k : Nat) (a0_0 : Int) (l0_1 : List Int) (l1 : List Int) (l2 : List Int) : Option (List Int × Int) := (spec_AreConjugate.f k a0_0 l0_1 l1 l2).bind fun bt385 => (if bt385.2 = 0 then (spec_ConjugatorOf.j0 k l1 l2 bt385.2 (!bt385.1) a0_0 l0_1) else (spec_ConjugatorOf.j0 k l1 l2 bt385.2 false a0_0 l0_1))

def spec_ConjugatorOf.T18 : Bool × List (List Nat × List Nat) := (true, [([], []), ([], []), ([], []), ([1, 2], [1, 2]), ([3], [3]), ([], []), ([0, 4, 5], [0, 4, 5]), ([6], [6]), ([7], [7]), ([7], [7]), ([8, 6, 0, 1, 2, 3, 4, 5, 6, 7, 8], [8]), ([9, 10, 0, 1, 2, 3, 4, 5, 6, 7, 8, 9, 10], [9])])
def spec_ConjugatorOf.B18 : List Nat := [0, 0, 0, 6, 14, 0, 63, 127, 255, 255, 511, 2047]
theorem spec_ConjugatorOf.tab18 : rtab .any (opsOf Tryd.f12 18) = spec_ConjugatorOf.T18 := by kernel_rfl
theorem spec_ConjugatorOf.bits18 : waitsOk spec_ConjugatorOf.T18.2 spec_ConjugatorOf.B18 = true := by kernel_rfl
set_option maxHeartbeats 8000000 in
set_option maxRecDepth 100000 in
theorem spec_ConjugatorOf.calls (k : Nat) (a0_0 : Int) (A0_1 : Option Addr) (c0_1 : Nat) (l0_1 : List Int) (A1 : Option Addr) (c1 : Nat) (l1 : List Int) (A2 : Option Addr) (c2 : Nat) (l2 : List Int) (r1 : List Int) (r2 : Int) (w : World) (hr0_1 : Kd.C (Kd.int .i64) w A0_1 l0_1.length l0_1) (hc0_1 : l0_1.length ≤ c0_1) (hr1 : Kd.C (Kd.int .i64) w A1 l1.length l1) (hc1 : l1.length ≤ c1) (hr2 : Kd.C (Kd.int .i64) w A2 l2.length l2) (hc2 : l2.length ≤ c2) (h : spec_ConjugatorOf.f k a0_0 l0_1 l1 l2 = some (r1, r2)) :
  Calls Tryd.prog 12 #[.agg #[.int .i64 a0_0, .slice A0_1 l0_1.length c0_1], .slice A1 l1.length c1, .slice A2 l2.length c2] w fun e w' => ∃ v0_ : Value, e = .returned (.tuple #[v0_, .int .i64 r2]) ∧ Kd.V (Kd.int .i64) 2 w' w.heap.size (fun k_ => (w.heap.size ≤ k_)) v0_ r1 ∧ Below w.heap.size w w' := by
 have hu28 := Tryd.underlying28
 have HR0_1 := zA hr0_1
 have HC0_1 := zA hc0_1
 clear hr0_1 hc0_1
 have HR1 := zA hr1
 have HC1 := zA hc1
 clear hr1 hc1
 have HR2 := zA hr2
 have HC2 := zA hc2
 clear hr2 hc2
 have HB := zA (kW w.heap.size w)
 have H := h
 unfold spec_ConjugatorOf.f at H
 clear h
 obtain ⟨⟨t385, t386⟩, A4, H⟩ := zb H
 try dsimp only at H
 have HC5 := zA H
 clear H
 go_enter Tryd.func12, Tryd.ntmps12
 go_upto_region 2 with (first | (refine zBE 3 #[.int .i64 a0_0, .slice A0_1 l0_1.length c0_1] 28 ?_; intro gb384 hg w6 hbox hb; have BK384 := zA (hbox); have GW384 := zA (zBH hg HB.out); have GE384 := zA (zBH hg HB.out); replace HB := zA (kQ (zQ HB.out) hb); clear hb hbox hg; obtain ⟨hcz7_0, hcz7_1, hfz7_0, hfz7_1⟩ := zB3 BK384.out) | (refine zO (some 21) Tryd.func6 #[.agg #[.int .i64 a0_0, .slice A0_1 l0_1.length c0_1], .slice A1 l1.length c1, .slice A2 l2.length c2] ?_; (with_reducible refine (spec_AreConjugate.calls k a0_0 _ _ l0_1 _ _ l1 _ _ l2 t385 t386 _ ?side1 ?side2 ?side3 ?side4 ?side5 ?side6 A4.out).mono ?_); (case side1 => exact zS (kO HR0_1.out HB.out)); (case side2 => exact HC0_1.out); (case side3 => exact zS (kO HR1.out HB.out)); (case side4 => exact HC1.out); (case side5 => exact zS (kO HR2.out HB.out)); (case side6 => exact HC2.out); rintro e w8 ⟨rfl, hb⟩; refine ⟨_, rfl, ?_⟩; replace BK384 := zA (zB1 BK384.out hb); replace HB := zA (kQ (zT HB.out GE384.out) hb); (try clear hb)))
 (try simp only [Act.put, zL, zM, zN])
 go_cut [29] (fun v29 wc => ∃ (kq : Nat) (x29_4 : Bool), v29 = .bool x29_4 ∧ Aside0 (spec_ConjugatorOf.j0 kq l1 l2 t386 x29_4 a0_0 l0_1 = some (r1, r2)) ∧ Aside0 (kq ≤ k) ∧ Aside0 (wc.heap[gb384]? = some (.cells #[.int .i64 a0_0, (.slice A0_1 l0_1.length c0_1)] 28 (0, 0))) ∧ Aside0 (Below w.heap.size w wc))
 case first =>
  have H := HC5.out
  clear HC5
  by_cases c9 : t386 = 0
  ·rw [if_pos c9] at H
   obtain ⟨c9b0, c9b1⟩ := zT1 c9
   clear c9
   (first | rw [c9b0] | (simp only [i64_w, i32_w]; rw [c9b0]) | skip)
   have H' := zA H
   clear H
   go_wp2
   go_meet
   case rel => exact ⟨_, (!t385), zs, H', ⟨by first | omega | exact Nat.le_refl _⟩, ⟨zR BK384.out⟩, ⟨zT HB.out GE384.out⟩⟩
  rw [if_neg c9] at H
  obtain ⟨c9b0, c9b1⟩ := zT2 c9
  (first | rw [c9b0] | (simp only [i64_w, i32_w]; rw [c9b0]) | skip)
  have H' := zA H
  clear H
  go_wp2
  go_meet
  case rel => exact ⟨_, (false), zs, H', ⟨by first | omega | exact Nat.le_refl _⟩, ⟨zR BK384.out⟩, ⟨zT HB.out GE384.out⟩⟩
 case rest =>
  clear HC5
  try clear c1
  try clear c2
  try clear c6
  try clear c9
  try clear hcz7_0
  try clear hcz7_1
  try clear hfz7_0
  try clear hfz7_1
  obtain ⟨kq, x29_4, rfl, HA, HJ4, BK384, HB⟩ := hcut
  cases kq with
  | zero => exact absurd HA.out (by simp [spec_ConjugatorOf.j0])
  | succ kj4 =>
   have H := HA.out
   clear HA
   simp only [spec_ConjugatorOf.j0] at H
   have HC10 := zA H
   clear H
   go_upto_if 29 with (fail)
   go_cut [9] (fun v9 wc => ∃ (kq : Nat) (x9_9 : Int), v9 = .int .i64 x9_9 ∧ Aside0 (spec_ConjugatorOf.j1 kq l1 l2 x9_9 a0_0 l0_1 = some (r1, r2)) ∧ Aside0 (kq ≤ kj4) ∧ Aside0 (wc.heap[gb384]? = some (.cells #[.int .i64 a0_0, (.slice A0_1 l0_1.length c0_1)] 28 (0, 0))) ∧ Aside0 (Below w.heap.size w wc))
   case first =>
    have H := HC10.out
    clear HC10
    by_cases c11 : x29_4 = true
    ·subst c11
     rw [if_pos rfl] at H
     have H' := zA H
     clear H
     go_wp2
     go_meet
     case rel => exact ⟨_, (4), zs, H', ⟨by have := HJ4.out; first | omega | exact Nat.le_refl _⟩, ⟨zR BK384.out⟩, ⟨zT HB.out GE384.out⟩⟩
    replace c11 := Bool.eq_false_iff.mpr c11
    subst c11
    rw [if_neg (show ¬ (false = true) by decide)] at H
    have H' := zA H
    clear H
    go_wp2
    go_meet
    case rel => exact ⟨_, (t386), zs, H', ⟨by have := HJ4.out; first | omega | exact Nat.le_refl _⟩, ⟨zR BK384.out⟩, ⟨zT HB.out GE384.out⟩⟩
   case rest =>
    clear HC10
    try clear c1
    try clear c2
    try clear c6
    try clear c9
    try clear c11
    try clear hcz7_0
    try clear hcz7_1
    try clear hfz7_0
    try clear hfz7_1
    obtain ⟨kq, x9_9, rfl, HA, HJ9, BK384, HB⟩ := hcut
    cases kq with
    | zero => exact absurd HA.out (by simp [spec_ConjugatorOf.j1])
    | succ kj9 =>
     have H := HA.out
     clear HA
     simp only [spec_ConjugatorOf.j1] at H
     by_cases c12 : x9_9 = 0
     ·rw [if_pos c12] at H
      obtain ⟨c12b0, c12b1⟩ := zT1 c12
      clear c12
      obtain ⟨t387, A13, H⟩ := zb H
      try dsimp only at H
      obtain ⟨y390, hy390⟩ : ∃ y_ : List (List Int), y_ = (([t387] : List (List Int))) := ⟨_, rfl⟩
      replace H : ((spec_l03Normal.f kj9 a0_0 l0_1 l2).bind fun t399 => (spec_ConjugatorOf.l0 kj9 y390 (([(([] : List Int))] : List (List Int))) t399 0 a0_0 l0_1)) = some (r1, r2) := zy hy390 H
      have Ny390 := zA hy390
      clear hy390
      obtain ⟨y393, hy393⟩ : ∃ y_ : List Int, y_ = (([] : List Int)) := ⟨_, rfl⟩
      replace H : ((spec_l03Normal.f kj9 a0_0 l0_1 l2).bind fun t399 => (spec_ConjugatorOf.l0 kj9 y390 (([y393] : List (List Int))) t399 0 a0_0 l0_1)) = some (r1, r2) := zy hy393 H
      have Ny393 := zA hy393
      clear hy393
      obtain ⟨y396, hy396⟩ : ∃ y_ : List (List Int), y_ = (([y393] : List (List Int))) := ⟨_, rfl⟩
      replace H : ((spec_l03Normal.f kj9 a0_0 l0_1 l2).bind fun t399 => (spec_ConjugatorOf.l0 kj9 y390 y396 t399 0 a0_0 l0_1)) = some (r1, r2) := zy hy396 H
      have Ny396 := zA hy396
      clear hy396
      obtain ⟨t399, A14, H⟩ := zb H
      try dsimp only at H
      have H' := zA H
      clear H
      obtain ⟨hcz15_0, hcz15_1, hfz15_0, hfz15_1⟩ := zB3 BK384.out
      go_wp2_with (first | (refine zO (some 35) Tryd.func21 #[.agg #[.int .i64 a0_0, .slice A0_1 l0_1.length c0_1], .slice A1 l1.length c1] ?_; (with_reducible refine (spec_l03Normal.calls kj9 a0_0 _ _ l0_1 _ _ l1 t387 _ ?side1 ?side2 ?side3 ?side4 A13.out).mono ?_); (case side1 => exact zS (kO HR0_1.out HB.out)); (case side2 => exact HC0_1.out); (case side3 => exact zS (kO HR1.out HB.out)); (case side4 => exact HC1.out); rintro e w16 ⟨v388, rfl, ho0, hb⟩; refine ⟨_, rfl, ?_⟩; have HO389 := zA (kI (Kd.R_newM (M := fun k_ => (w.heap.size ≤ k_)) ho0 (kP (zT HB.out GE384.out)) (fun k_ h_ => h_)) (kP (zT HB.out GE384.out))); replace BK384 := zA (zB1 BK384.out hb); replace HB := zA (kQ (zT HB.out GE384.out) hb); (try clear hb); (try clear ho0); obtain ⟨Ao17, co17, eo17⟩ := kM HO389.out; subst eo17) | ((with_reducible refine kS (N := 36) rfl ?_); refine Kd.N_lit (Kd.slice 2 (Kd.int .i64)) _ 22 ?hg (N' := 36) ?hd (xs := ([t387] : List (List Int))) (inner := [.slice Ao17 t387.length co17]) (ok := (fun k_ => (w.heap.size ≤ k_) ∧ k_ ≠ gb384)) (okp := (fun k_ => (w.heap.size ≤ k_) ∧ k_ ≠ gb384)) ?hr ?hp (fun _ hk => hk) ((show ∀ k_ : Nat, (_ : Nat) ≤ k_ → (fun k_ => (w.heap.size ≤ k_) ∧ k_ ≠ gb384) k_ from fun k_ hk => ⟨(Nat.le_trans (kP (zT HB.out GE384.out)) hk), jE (g := gb384) (o := .cells #[.int .i64 a0_0, .slice A0_1 l0_1.length c0_1] 28 (0, 0)) (zR BK384.out) k_ hk⟩) _ (Nat.le_refl _)) (kW _ _) (Nat.le_refl _) (by simp) ?_; (case hd => rfl); (case hg => rfl); (case hr => first | (go_simp; done) | (go_simp; rfl)); (case hp => exact (Reps.one (show Kd.FK (Kd.slice 2 (Kd.int .i64)) _ _ t387 [.slice Ao17 t387.length co17] from (Kd.FK_slice_mk (kB (kA (ok' := (fun k_ => (w.heap.size ≤ k_) ∧ k_ ≠ gb384)) (kD (HO389.out) BK384.out (by decide)) (fun k_ hk => ⟨hk.1.1, hk.2⟩))).2.1 (Kd.R_F (kA (ok' := (fun k_ => (w.heap.size ≤ k_) ∧ k_ ≠ gb384)) (kD (HO389.out) BK384.out (by decide)) (fun k_ hk => ⟨hk.1.1, hk.2⟩))))) (Reps.none _ _))); intro v391 w18 ho19 hb hg_ hnew_; clear hg_ hnew_; (first | rw [← Ny390.out] at ho19 | (simp only [Int.reduceToNat] at ho19; rw [← Ny390.out] at ho19)); have HO392 := zA (jN ho19 (kP (zT HB.out GE384.out))); replace BK384 := zA (zB1 BK384.out hb); replace HB := zA (kQ (zT HB.out GE384.out) hb); clear HO389; clear hb ho19) | ((with_reducible refine kS (N := 37) rfl ?_); refine Kd.R_lit (Kd.int .i64) _ 2 ?hg (N := 37) ?hd (xs := ([] : List Int)) (inner := []) (ok := fun _ => True) (okp := fun _ => True) ?hr ?hp (fun _ hk => hk) trivial (kW _ _) (Nat.le_refl _) (by simp) ?_; (case hd => rfl); (case hg => rfl); (case hr => first | (go_simp; done) | (go_simp; rfl)); (case hp => exact (Reps.none _ _)); intro v394 w20 ho21 hb hg_ hnew_; clear hg_ hnew_; (first | rw [← Ny393.out] at ho21 | (simp only [Int.reduceToNat] at ho21; rw [← Ny393.out] at ho21)); replace HO392 := zA (Kd.N_elder' (zPN HO392.out) (kC ho21) hb); have HO395 := zA (kI (Kd.R_newM (M := fun k_ => (w.heap.size ≤ k_)) ho21 (kP (zT HB.out GE384.out)) (fun k_ h_ => h_)) (kP (zT HB.out GE384.out))); replace BK384 := zA (zB1 BK384.out hb); replace HB := zA (kQ (zT HB.out GE384.out) hb); clear hb ho21; obtain ⟨Ao22, co22, eo22⟩ := kM HO395.out; subst eo22) | ((with_reducible refine kS (N := 38) rfl ?_); refine Kd.N_lit (Kd.slice 2 (Kd.int .i64)) _ 22 ?hg (N' := 38) ?hd (xs := ([y393] : List (List Int))) (inner := [.slice Ao22 y393.length co22]) (ok := (fun k_ => (w.heap.size ≤ k_) ∧ some k_ ≠ (v391 : Value).ownBlock ∧ k_ ≠ gb384)) (okp := (fun k_ => (w.heap.size ≤ k_) ∧ some k_ ≠ (v391 : Value).ownBlock ∧ k_ ≠ gb384)) ?hr ?hp (fun _ hk => hk) ((show ∀ k_ : Nat, (_ : Nat) ≤ k_ → (fun k_ => (w.heap.size ≤ k_) ∧ some k_ ≠ (v391 : Value).ownBlock ∧ k_ ≠ gb384) k_ from fun k_ hk => ⟨(Nat.le_trans (kP (zT HB.out GE384.out)) hk), jF (jA (zPN HO392.out)) k_ hk, jE (g := gb384) (o := .cells #[.int .i64 a0_0, .slice A0_1 l0_1.length c0_1] 28 (0, 0)) (zR BK384.out) k_ hk⟩) _ (Nat.le_refl _)) (kW _ _) (Nat.le_refl _) (by simp) ?_; (case hd => rfl); (case hg => rfl); (case hr => first | (go_simp; done) | (go_simp; rfl)); (case hp => exact (Reps.one (show Kd.FK (Kd.slice 2 (Kd.int .i64)) _ _ y393 [.slice Ao22 y393.length co22] from (Kd.FK_slice_mk (kB (kA (ok' := (fun k_ => (w.heap.size ≤ k_) ∧ some k_ ≠ (v391 : Value).ownBlock ∧ k_ ≠ gb384)) (kD (Kd.R_apart' (HO395.out) (Kd.N_typed HO392.out) (by decide)) BK384.out (by decide)) (fun k_ hk => ⟨hk.1.1.1, ⟨hk.1.2, hk.2⟩⟩))).2.1 (Kd.R_F (kA (ok' := (fun k_ => (w.heap.size ≤ k_) ∧ some k_ ≠ (v391 : Value).ownBlock ∧ k_ ≠ gb384)) (kD (Kd.R_apart' (HO395.out) (Kd.N_typed HO392.out) (by decide)) BK384.out (by decide)) (fun k_ hk => ⟨hk.1.1.1, ⟨hk.1.2, hk.2⟩⟩))))) (Reps.none _ _))); intro v397 w23 ho24 hb hg_ hnew_; clear hg_ hnew_; (first | rw [← Ny396.out] at ho24 | (simp only [Int.reduceToNat] at ho24; rw [← Ny396.out] at ho24)); replace HO392 := zA (Kd.N_elder' (zPN HO392.out) (Kd.N_base ho24) hb); have HO398 := zA (jN ho24 (kP (zT HB.out GE384.out))); replace BK384 := zA (zB1 BK384.out hb); replace HB := zA (kQ (zT HB.out GE384.out) hb); clear HO395; clear hb ho24; obtain ⟨hcz25_0, hcz25_1, hfz25_0, hfz25_1⟩ := zB3 BK384.out) | (refine zO (some 41) Tryd.func21 #[.agg #[.int .i64 a0_0, .slice A0_1 l0_1.length c0_1], .slice A2 l2.length c2] ?_; (with_reducible refine (spec_l03Normal.calls kj9 a0_0 _ _ l0_1 _ _ l2 t399 _ ?side1 ?side2 ?side3 ?side4 A14.out).mono ?_); (case side1 => exact zS (kO HR0_1.out HB.out)); (case side2 => exact HC0_1.out); (case side3 => exact zS (kO HR2.out HB.out)); (case side4 => exact HC2.out); rintro e w26 ⟨v400, rfl, ho0, hb⟩; refine ⟨_, rfl, ?_⟩; replace HO392 := zA (Kd.N_elder' (zPN HO392.out) (kC ho0) hb); replace HO398 := zA (Kd.N_elder' (zPN HO398.out) (kC ho0) hb); have HO401 := zA (kI (Kd.R_newM (M := fun k_ => (w.heap.size ≤ k_)) ho0 (kP (zT HB.out GE384.out)) (fun k_ h_ => h_)) (kP (zT HB.out GE384.out))); replace BK384 := zA (zB1 BK384.out hb); replace HB := zA (kQ (zT HB.out GE384.out) hb); (try clear hb); (try clear ho0)))
      go_loopg [10, 11, 13] kj9 (fun kq v10 v11 v13 w' => ∃ (x10_3 : List (List Int)) (x11_3 : List (List Int)) (x13_3 : Int), v13 = .int .i64 x13_3 ∧ Aside0 (spec_ConjugatorOf.l0 kq x10_3 x11_3 t399 x13_3 a0_0 l0_1 = some (r1, r2)) ∧ Aside0 (kq ≤ kj9) ∧ Aside0 (Kd.N (Kd.slice 2 (Kd.int .i64)) 22 w' w.heap.size (fun k_ => (w.heap.size ≤ k_) ∧ some k_ ≠ (v11 : Value).ownBlock ∧ some k_ ≠ (v400 : Value).ownBlock ∧ k_ ≠ gb384) v10 x10_3) ∧ Aside0 (Kd.N (Kd.slice 2 (Kd.int .i64)) 22 w' w.heap.size (fun k_ => (w.heap.size ≤ k_) ∧ some k_ ≠ (v10 : Value).ownBlock ∧ some k_ ≠ (v400 : Value).ownBlock ∧ k_ ≠ gb384) v11 x11_3) ∧ Aside0 (Kd.R (Kd.int .i64) 2 w' w.heap.size (fun k_ => (w.heap.size ≤ k_)) v400 t399) ∧ Aside0 (w'.heap[gb384]? = some (.cells #[.int .i64 a0_0, (.slice A0_1 l0_1.length c0_1)] 28 (0, 0))) ∧ Aside0 (Below w.heap.size w w'))
      case atStart => exact ⟨(y390), (y396), (0), zs, H', ⟨Nat.le_refl _⟩, ⟨by (with_reducible repeat (first | apply Kd.N_alloc | apply Kd.N_drewN | apply Kd.N_drew)); exact Kd.N_mono HO392.out (fun _ hk => ⟨hk.1.1.1.1, ⟨hk.1.2, ⟨hk.2, hk.1.1.1.2⟩⟩⟩)⟩, ⟨by (with_reducible repeat (first | apply Kd.N_alloc | apply Kd.N_drewN | apply Kd.N_drew)); exact Kd.N_mono HO398.out (fun _ hk => ⟨hk.1.1, ⟨hk.1.2.1, ⟨hk.2, hk.1.2.2⟩⟩⟩)⟩, ⟨zPM HO401.out (fun _ hk => hk.1)⟩, ⟨zR BK384.out⟩, ⟨zT HB.out GE384.out⟩⟩
      case round =>
       clear H'
       try clear c1
       try clear c2
       try clear c6
       try clear c9
       try clear c11
       try clear c12
       try clear c21
       try clear hcz15_0
       try clear hcz15_1
       try clear hcz25_0
       try clear hcz25_1
       try clear hcz7_0
       try clear hcz7_1
       try clear hfz15_0
       try clear hfz15_1
       try clear hfz25_0
       try clear hfz25_1
       try clear hfz7_0
       try clear hfz7_1
       obtain ⟨x10_3, x11_3, x13_3, rfl, HA, HK3, HO_10, HO_11, HO_12, BK384, HB⟩ := hrel
       cases gk with
       | zero => exact absurd HA.out (by simp [spec_ConjugatorOf.l0])
       | succ k3 =>
        have H := HA.out
        clear HA
        simp only [spec_ConjugatorOf.l0] at H
        by_cases c27 : x13_3 < (x10_3.length : Int)
        ·rw [if_pos c27] at H
         have c27b0 : decide (x13_3 < (x10_3.length : Int)) = true := decide_eq_true c27
         clear c27
         by_cases c28 : 0 ≤ x13_3
         ·rw [if_pos c28] at H
          have c28b0 : decide (0 ≤ x13_3) = true := decide_eq_true c28
          clear c28
          obtain ⟨t403, A29, H⟩ := zb H
          try dsimp only at H
          by_cases c30 : t403 = true
          ·subst c30
           rw [if_pos rfl] at H
           by_cases c31 : x13_3 < (x11_3.length : Int)
           ·rw [if_pos c31] at H
            have c31b0 : decide (x13_3 < (x11_3.length : Int)) = true := decide_eq_true c31
            clear c31
            by_cases c32 : ((rd_L1 x11_3 x13_3).length : Int) > 24
            ·rw [if_pos c32] at H
             have c32b0 : decide (24 < ((rd_L1 x11_3 x13_3).length : Int)) = true := decide_eq_true c32
             have c32b1 : decide (24 < (rd_L1 x11_3 x13_3).length) = true := decide_eq_true (by omega)
             clear c32
             simp only [Option.some.injEq, Prod.mk.injEq] at H
             obtain ⟨rfl, rfl⟩ := H
             obtain ⟨Ao33, co33, eo33⟩ := Kd.N_slice HO_10.out
             subst eo33
             have p402 : 0 ≤ (x13_3 : Int) := zd
             have q402 : x13_3 < (x10_3.length : Int) := zd
             obtain ⟨ad402, A402_0, c402_0, e402, hx402_0, hl402_0, hi402_0⟩ := at_L1 (Kd.N_reads' HO_10.out).2.2 x13_3 p402 q402
             cases e402
             obtain ⟨ce402, hce402, hMe402, hcc402⟩ := Kd.N_get HO_10.out [] x13_3 p402 (by first | exact q402 | exact zd | (have e_ := (Kd.N_reads' HO_10.out).1; omega))
             obtain ⟨ua402_0, uc402_0, rfl, ul402_0, ge402_0⟩ := Kd.FK_slice_open hMe402
             have hv402_0 := hcc402 0 _ rfl
             rw [Nat.add_zero, show ((Kd.slice 2 (Kd.int .i64))).sz = 1 from rfl, Nat.mul_one] at hv402_0
             replace hv402_0 := Option.some.inj (hv402_0.symm.trans hx402_0)
             injection hv402_0 with hva_ hvn_ hvc_
             rw [hva_] at ge402_0
             rw [hvc_] at ul402_0
             have HL402_0 := zA (show Kd.V (Kd.int .i64) 2 _ w.heap.size _ _ (rd_L1 x10_3 x13_3) from Kd.V_mk ul402_0 ge402_0)
             clear hva_ hvn_ hvc_ ge402_0 ul402_0 hcc402 hce402
             have HR402_0 := zA hi402_0
             have HC402_0 := zA hl402_0
             clear hi402_0 hl402_0
             replace p402 := eq_true p402
             replace q402 := eq_true q402
             obtain ⟨Ao34, co34, eo34⟩ := kM HO_12.out
             subst eo34
             go_wp2_with (first | (refine zO (some 53) Tryd.func26 #[.slice A402_0 (rd_L1 x10_3 x13_3).length c402_0, .slice Ao34 t399.length co34] ?_; (with_reducible refine (spec_l01Same.calls k3 _ _ (rd_L1 x10_3 x13_3) _ _ t399 true _ ?side1 ?side2 ?side3 ?side4 A29.out).mono ?_); (case side1 => repeat (first | exact (by repeat (first | (with_reducible exact HR402_0.out) | (with_reducible refine Kd.C_alloc ?_ _) | (with_reducible refine Kd.C_drewN ?_ _) | (with_reducible refine Kd.C_drew ?_) | exact HR402_0.out)) | (with_reducible refine Kd.C_alloc ?_ _) | (with_reducible refine Kd.C_drewN ?_ _) | (with_reducible refine Kd.C_drew ?_))); (case side2 => exact HC402_0.out); (case side3 => exact zS (kB HO_12.out).2.2); (case side4 => exact (kB HO_12.out).2.1); rintro e w' ⟨rfl, ⟨nd, rfl⟩⟩; refine ⟨_, rfl, ?_⟩; obtain ⟨Ao35, co35, eo35⟩ := Kd.N_slice HO_11.out; subst eo35; have p404 : 0 ≤ (x13_3 : Int) := zd; have q404 : x13_3 < (x11_3.length : Int) := zd; obtain ⟨ad404, A404_0, c404_0, e404, hx404_0, hl404_0, hi404_0⟩ := at_L1 (Kd.N_reads' HO_11.out).2.2 x13_3 p404 q404; cases e404; obtain ⟨ce404, hce404, hMe404, hcc404⟩ := Kd.N_get HO_11.out [] x13_3 p404 (by first | exact q404 | exact zd | (have e_ := (Kd.N_reads' HO_11.out).1; omega)); obtain ⟨ua404_0, uc404_0, rfl, ul404_0, ge404_0⟩ := Kd.FK_slice_open hMe404; have hv404_0 := hcc404 0 _ rfl; rw [Nat.add_zero, show ((Kd.slice 2 (Kd.int .i64))).sz = 1 from rfl, Nat.mul_one] at hv404_0; replace hv404_0 := Option.some.inj (hv404_0.symm.trans hx404_0); injection hv404_0 with hva_ hvn_ hvc_; rw [hva_] at ge404_0; rw [hvc_] at ul404_0; have HL404_0 := zA (show Kd.V (Kd.int .i64) 2 _ w.heap.size _ _ (rd_L1 x11_3 x13_3) from Kd.V_mk ul404_0 ge404_0); clear hva_ hvn_ hvc_ ge404_0 ul404_0; clear hcc404 hce404; have HR404_0 := zA hi404_0; have HC404_0 := zA hl404_0; clear hi404_0 hl404_0; replace p404 := eq_true p404; replace q404 := eq_true q404))
             go_ret2
             exact ⟨_, zr, (by exact Kd.V_nil _ _ _ _ _), zT HB.out GE384.out⟩
            rw [if_neg c32] at H
            have c32b0 : decide (24 < ((rd_L1 x11_3 x13_3).length : Int)) = false := decide_eq_false c32
            have c32b1 : decide (24 < (rd_L1 x11_3 x13_3).length) = false := decide_eq_false (by omega)
            clear c32
            simp only [Option.some.injEq, Prod.mk.injEq] at H
            obtain ⟨rfl, rfl⟩ := H
            obtain ⟨Ao36, co36, eo36⟩ := Kd.N_slice HO_10.out
            subst eo36
            have p402 : 0 ≤ (x13_3 : Int) := zd
            have q402 : x13_3 < (x10_3.length : Int) := zd
            obtain ⟨ad402, A402_0, c402_0, e402, hx402_0, hl402_0, hi402_0⟩ := at_L1 (Kd.N_reads' HO_10.out).2.2 x13_3 p402 q402
            cases e402
            obtain ⟨ce402, hce402, hMe402, hcc402⟩ := Kd.N_get HO_10.out [] x13_3 p402 (by first | exact q402 | exact zd | (have e_ := (Kd.N_reads' HO_10.out).1; omega))
            obtain ⟨ua402_0, uc402_0, rfl, ul402_0, ge402_0⟩ := Kd.FK_slice_open hMe402
            have hv402_0 := hcc402 0 _ rfl
            rw [Nat.add_zero, show ((Kd.slice 2 (Kd.int .i64))).sz = 1 from rfl, Nat.mul_one] at hv402_0
            replace hv402_0 := Option.some.inj (hv402_0.symm.trans hx402_0)
            injection hv402_0 with hva_ hvn_ hvc_
            rw [hva_] at ge402_0
            rw [hvc_] at ul402_0
            have HL402_0 := zA (show Kd.V (Kd.int .i64) 2 _ w.heap.size _ _ (rd_L1 x10_3 x13_3) from Kd.V_mk ul402_0 ge402_0)
            clear hva_ hvn_ hvc_ ge402_0 ul402_0 hcc402 hce402
            have HR402_0 := zA hi402_0
            have HC402_0 := zA hl402_0
            clear hi402_0 hl402_0
            replace p402 := eq_true p402
            replace q402 := eq_true q402
            obtain ⟨Ao37, co37, eo37⟩ := kM HO_12.out
            subst eo37
            go_wp2_with (first | (refine zO (some 53) Tryd.func26 #[.slice A402_0 (rd_L1 x10_3 x13_3).length c402_0, .slice Ao37 t399.length co37] ?_; (with_reducible refine (spec_l01Same.calls k3 _ _ (rd_L1 x10_3 x13_3) _ _ t399 true _ ?side1 ?side2 ?side3 ?side4 A29.out).mono ?_); (case side1 => repeat (first | exact (by repeat (first | (with_reducible exact HR402_0.out) | (with_reducible refine Kd.C_alloc ?_ _) | (with_reducible refine Kd.C_drewN ?_ _) | (with_reducible refine Kd.C_drew ?_) | exact HR402_0.out)) | (with_reducible refine Kd.C_alloc ?_ _) | (with_reducible refine Kd.C_drewN ?_ _) | (with_reducible refine Kd.C_drew ?_))); (case side2 => exact HC402_0.out); (case side3 => exact zS (kB HO_12.out).2.2); (case side4 => exact (kB HO_12.out).2.1); rintro e w' ⟨rfl, ⟨nd, rfl⟩⟩; refine ⟨_, rfl, ?_⟩; obtain ⟨Ao38, co38, eo38⟩ := Kd.N_slice HO_11.out; subst eo38; have p404 : 0 ≤ (x13_3 : Int) := zd; have q404 : x13_3 < (x11_3.length : Int) := zd; obtain ⟨ad404, A404_0, c404_0, e404, hx404_0, hl404_0, hi404_0⟩ := at_L1 (Kd.N_reads' HO_11.out).2.2 x13_3 p404 q404; cases e404; obtain ⟨ce404, hce404, hMe404, hcc404⟩ := Kd.N_get HO_11.out [] x13_3 p404 (by first | exact q404 | exact zd | (have e_ := (Kd.N_reads' HO_11.out).1; omega)); obtain ⟨ua404_0, uc404_0, rfl, ul404_0, ge404_0⟩ := Kd.FK_slice_open hMe404; have hv404_0 := hcc404 0 _ rfl; rw [Nat.add_zero, show ((Kd.slice 2 (Kd.int .i64))).sz = 1 from rfl, Nat.mul_one] at hv404_0; replace hv404_0 := Option.some.inj (hv404_0.symm.trans hx404_0); injection hv404_0 with hva_ hvn_ hvc_; rw [hva_] at ge404_0; rw [hvc_] at ul404_0; have HL404_0 := zA (show Kd.V (Kd.int .i64) 2 _ w.heap.size _ _ (rd_L1 x11_3 x13_3) from Kd.V_mk ul404_0 ge404_0); clear hva_ hvn_ hvc_ ge404_0 ul404_0; clear hcc404 hce404; have HR404_0 := zA hi404_0; have HC404_0 := zA hl404_0; clear hi404_0 hl404_0; replace p404 := eq_true p404; replace q404 := eq_true q404; have p405 : 0 ≤ (x13_3 : Int) := zd; have q405 : x13_3 < (x11_3.length : Int) := zd; obtain ⟨ad405, A405_0, c405_0, e405, hx405_0, hl405_0, hi405_0⟩ := at_L1 (Kd.N_reads' HO_11.out).2.2 x13_3 p405 q405; obtain rfl : ad404 = ad405 := (by injection e405); obtain ⟨ce405, hce405, hMe405, hcc405⟩ := Kd.N_get HO_11.out [] x13_3 p405 (by first | exact q405 | exact zd | (have e_ := (Kd.N_reads' HO_11.out).1; omega)); obtain ⟨ua405_0, uc405_0, rfl, ul405_0, ge405_0⟩ := Kd.FK_slice_open hMe405; have hv405_0 := hcc405 0 _ rfl; rw [Nat.add_zero, show ((Kd.slice 2 (Kd.int .i64))).sz = 1 from rfl, Nat.mul_one] at hv405_0; replace hv405_0 := Option.some.inj (hv405_0.symm.trans hx405_0); injection hv405_0 with hva_ hvn_ hvc_; rw [hva_] at ge405_0; rw [hvc_] at ul405_0; have HL405_0 := zA (show Kd.V (Kd.int .i64) 2 _ w.heap.size _ _ (rd_L1 x11_3 x13_3) from Kd.V_mk ul405_0 ge405_0); clear hva_ hvn_ hvc_ ge405_0 ul405_0; clear hcc405 hce405; have HR405_0 := zA hi405_0; have HC405_0 := zA hl405_0; clear hi405_0 hl405_0; replace p405 := eq_true p405; replace q405 := eq_true q405; have ea_ := Option.some.inj (hx404_0.symm.trans hx405_0); injection ea_ with ea_ en_ ec_; subst ea_; subst ec_; clear en_))
            go_ret2
            exact ⟨_, zr, by (with_reducible repeat (first | apply Kd.V_alloc | apply Kd.V_drewN | apply Kd.V_drew)); exact kN HL405_0.out (fun _ hk => hk.1.1), zT HB.out GE384.out⟩
           rw [if_neg c31] at H
           exact absurd H (by simp)
          replace c30 := Bool.eq_false_iff.mpr c30
          subst c30
          rw [if_neg (show ¬ (false = true) by decide)] at H
          have H' := zA H
          clear H
          obtain ⟨Ao39, co39, eo39⟩ := Kd.N_slice HO_10.out
          subst eo39
          have p402 : 0 ≤ (x13_3 : Int) := zd
          have q402 : x13_3 < (x10_3.length : Int) := zd
          obtain ⟨ad402, A402_0, c402_0, e402, hx402_0, hl402_0, hi402_0⟩ := at_L1 (Kd.N_reads' HO_10.out).2.2 x13_3 p402 q402
          cases e402
          obtain ⟨ce402, hce402, hMe402, hcc402⟩ := Kd.N_get HO_10.out [] x13_3 p402 (by first | exact q402 | exact zd | (have e_ := (Kd.N_reads' HO_10.out).1; omega))
          obtain ⟨ua402_0, uc402_0, rfl, ul402_0, ge402_0⟩ := Kd.FK_slice_open hMe402
          have hv402_0 := hcc402 0 _ rfl
          rw [Nat.add_zero, show ((Kd.slice 2 (Kd.int .i64))).sz = 1 from rfl, Nat.mul_one] at hv402_0
          replace hv402_0 := Option.some.inj (hv402_0.symm.trans hx402_0)
          injection hv402_0 with hva_ hvn_ hvc_
          rw [hva_] at ge402_0
          rw [hvc_] at ul402_0
          have HL402_0 := zA (show Kd.V (Kd.int .i64) 2 _ w.heap.size _ _ (rd_L1 x10_3 x13_3) from Kd.V_mk ul402_0 ge402_0)
          clear hva_ hvn_ hvc_ ge402_0 ul402_0 hcc402 hce402
          have HR402_0 := zA hi402_0
          have HC402_0 := zA hl402_0
          clear hi402_0 hl402_0
          replace p402 := eq_true p402
          replace q402 := eq_true q402
          obtain ⟨Ao40, co40, eo40⟩ := kM HO_12.out
          subst eo40
          go_wp2_with (first | (refine zO (some 53) Tryd.func26 #[.slice A402_0 (rd_L1 x10_3 x13_3).length c402_0, .slice Ao40 t399.length co40] ?_; (with_reducible refine (spec_l01Same.calls k3 _ _ (rd_L1 x10_3 x13_3) _ _ t399 false _ ?side1 ?side2 ?side3 ?side4 A29.out).mono ?_); (case side1 => repeat (first | exact (by repeat (first | (with_reducible exact HR402_0.out) | (with_reducible refine Kd.C_alloc ?_ _) | (with_reducible refine Kd.C_drewN ?_ _) | (with_reducible refine Kd.C_drew ?_) | exact HR402_0.out)) | (with_reducible refine Kd.C_alloc ?_ _) | (with_reducible refine Kd.C_drewN ?_ _) | (with_reducible refine Kd.C_drew ?_))); (case side2 => exact HC402_0.out); (case side3 => exact zS (kB HO_12.out).2.2); (case side4 => exact (kB HO_12.out).2.1); rintro e w' ⟨rfl, ⟨nd, rfl⟩⟩; refine ⟨_, rfl, ?_⟩))
          go_loopg [10, 11, 14] k3 (fun kq v10 v11 v14 w' => ∃ (x10_4 : List (List Int)) (x11_4 : List (List Int)) (x14_4 : Int), v14 = .int .i64 x14_4 ∧ Aside0 (spec_ConjugatorOf.l1 kq x10_4 x11_4 t399 x13_3 x14_4 a0_0 l0_1 = some (r1, r2)) ∧ Aside0 (kq ≤ k3) ∧ Aside0 (Kd.N (Kd.slice 2 (Kd.int .i64)) 22 w' w.heap.size (fun k_ => (w.heap.size ≤ k_) ∧ some k_ ≠ (v11 : Value).ownBlock ∧ some k_ ≠ ((.slice Ao40 t399.length co40) : Value).ownBlock ∧ k_ ≠ gb384) v10 x10_4) ∧ Aside0 (Kd.N (Kd.slice 2 (Kd.int .i64)) 22 w' w.heap.size (fun k_ => (w.heap.size ≤ k_) ∧ some k_ ≠ (v10 : Value).ownBlock ∧ some k_ ≠ ((.slice Ao40 t399.length co40) : Value).ownBlock ∧ k_ ≠ gb384) v11 x11_4) ∧ Aside0 (Kd.R (Kd.int .i64) 2 w' w.heap.size (fun k_ => (w.heap.size ≤ k_)) (.slice Ao40 t399.length co40) t399) ∧ Aside0 (w'.heap[gb384]? = some (.cells #[.int .i64 a0_0, (.slice A0_1 l0_1.length c0_1)] 28 (0, 0))) ∧ Aside0 (Below w.heap.size w w'))
          case atStart => exact ⟨(x10_3), (x11_3), (0), zs, H', ⟨Nat.le_refl _⟩, ⟨zPN HO_10.out⟩, ⟨zPN HO_11.out⟩, ⟨zP HO_12.out⟩, ⟨zR BK384.out⟩, ⟨zT HB.out GE384.out⟩⟩
          case round =>
           clear H'
           try clear c1
           try clear c2
           try clear c3
           try clear c4
           try clear hx4
           try clear c6
           try clear c9
           try clear c11
           try clear c12
           try clear c21
           try clear c26
           try clear c27
           try clear c28
           try clear c30
           try clear c31
           try clear c32
           try clear c40
           try clear hx40
           try clear hcz15_0
           try clear hcz15_1
           try clear hcz25_0
           try clear hcz25_1
           try clear hcz7_0
           try clear hcz7_1
           try clear hfz15_0
           try clear hfz15_1
           try clear hfz25_0
           try clear hfz25_1
           try clear hfz7_0
           try clear hfz7_1
           try clear hx402_0
           try clear hx404_0
           try clear hx405_0
           obtain ⟨x10_4, x11_4, x14_4, rfl, HA, HK4, HO_10, HO_11, HO_12, BK384, HB⟩ := hrel
           cases gk with
           | zero => exact absurd HA.out (by simp [spec_ConjugatorOf.l1])
           | succ k4 =>
            have H := HA.out
            clear HA
            simp only [spec_ConjugatorOf.l1] at H
            by_cases c41 : x14_4 < a0_0
            ·rw [if_pos c41] at H
             have c41b0 : decide (x14_4 < a0_0) = true := decide_eq_true c41
             clear c41
             by_cases c42 : 0 ≤ x13_3
             ·rw [if_pos c42] at H
              have c42b0 : decide (0 ≤ x13_3) = true := decide_eq_true c42
              clear c42
              by_cases c43 : x13_3 < (x10_4.length : Int)
              ·rw [if_pos c43] at H
               have c43b0 : decide (x13_3 < (x10_4.length : Int)) = true := decide_eq_true c43
               clear c43
               obtain ⟨⟨t407, t410⟩, A44, H⟩ := zb H
               try dsimp only at H
               by_cases c45 : t410 = true
               ·subst c45
                rw [if_pos rfl] at H
                obtain ⟨t411, A46, H⟩ := zb H
                try dsimp only at H
                by_cases c47 : t411 < 0
                ·rw [if_pos c47] at H
                 have c47b0 : decide (t411 < 0) = true := decide_eq_true c47
                 clear c47
                 by_cases c48 : x10_4.length < 5864062014805
                 ·rw [if_pos c48] at H
                  have LMc48 := zA c48
                  clear c48
                  obtain ⟨y412, hy412⟩ : ∃ y_ : List (List Int), y_ = (x10_4 ++ [t407]) := ⟨_, rfl⟩
                  replace H : (if x13_3 < (x11_4.length : Int) then ((spec_l01Own.f (rd_L1 x11_4 x13_3)).bind fun t416 => (if t416.length < 17592186044416 then (if x11_4.length < 5864062014805 then (spec_ConjugatorOf.l1 k4 y412 (x11_4 ++ [(t416 ++ [x14_4])]) t399 x13_3 (wrap64 (x14_4 + 1)) a0_0 l0_1) else (none)) else (none))) else (none)) = some (r1, r2) := zy hy412 H
                  have Ny412 := zA hy412
                  clear hy412
                  by_cases c49 : x13_3 < (x11_4.length : Int)
                  ·rw [if_pos c49] at H
                   have c49b0 : decide (x13_3 < (x11_4.length : Int)) = true := decide_eq_true c49
                   clear c49
                   obtain ⟨t416, A50, H⟩ := zb H
                   try dsimp only at H
                   by_cases c51 : t416.length < 17592186044416
                   ·rw [if_pos c51] at H
                    have LMc51 := zA c51
                    clear c51
                    obtain ⟨y419, hy419⟩ : ∃ y_ : List Int, y_ = (t416 ++ [x14_4]) := ⟨_, rfl⟩
                    replace H : (if x11_4.length < 5864062014805 then (spec_ConjugatorOf.l1 k4 y412 (x11_4 ++ [y419]) t399 x13_3 (wrap64 (x14_4 + 1)) a0_0 l0_1) else (none)) = some (r1, r2) := zy hy419 H
                    have Ny419 := zA hy419
                    clear hy419
                    by_cases c52 : x11_4.length < 5864062014805
                    ·rw [if_pos c52] at H
                     have LMc52 := zA c52
                     clear c52
                     obtain ⟨y422, hy422⟩ : ∃ y_ : List (List Int), y_ = (x11_4 ++ [y419]) := ⟨_, rfl⟩
                     replace H : (spec_ConjugatorOf.l1 k4 y412 y422 t399 x13_3 (wrap64 (x14_4 + 1)) a0_0 l0_1) = some (r1, r2) := zy hy422 H
                     have Ny422 := zA hy422
                     clear hy422
                     have H' := zA H
                     clear H
                     obtain ⟨hcz53_0, hcz53_1, hfz53_0, hfz53_1⟩ := zB3 BK384.out
                     try go_wp2
                     replace HO_10 := zA (Kd.N_drew HO_10.out)
                     replace HO_11 := zA (Kd.N_drew HO_11.out)
                     replace HO_12 := zA (zH HO_12.out)
                     replace BK384 := zA (zK BK384.out)
                     replace HB := zA (zD HB.out)
                     obtain ⟨Ao55, co55, eo55⟩ := Kd.N_slice HO_10.out
                     (first | subst eo55 | (injection eo55 with f1_ f2_ f3_; have f4_ := f1_.symm; have f5_ := f3_.symm; clear f1_ f2_ f3_; subst f4_; subst f5_))
                     have p406 : 0 ≤ (x13_3 : Int) := zd
                     have q406 : x13_3 < (x10_4.length : Int) := zd
                     obtain ⟨ad406, A406_0, c406_0, e406, hx406_0, hl406_0, hi406_0⟩ := at_L1 (Kd.N_reads' HO_10.out).2.2 x13_3 p406 q406
                     cases e406
                     obtain ⟨ce406, hce406, hMe406, hcc406⟩ := Kd.N_get HO_10.out [] x13_3 p406 (by first | exact q406 | exact zd | (have e_ := (Kd.N_reads' HO_10.out).1; omega))
                     obtain ⟨ua406_0, uc406_0, rfl, ul406_0, ge406_0⟩ := Kd.FK_slice_open hMe406
                     have hv406_0 := hcc406 0 _ rfl
                     rw [Nat.add_zero, show ((Kd.slice 2 (Kd.int .i64))).sz = 1 from rfl, Nat.mul_one] at hv406_0
                     replace hv406_0 := Option.some.inj (hv406_0.symm.trans hx406_0)
                     injection hv406_0 with hva_ hvn_ hvc_
                     rw [hva_] at ge406_0
                     rw [hvc_] at ul406_0
                     have HL406_0 := zA (show Kd.V (Kd.int .i64) 2 _ w.heap.size _ _ (rd_L1 x10_4 x13_3) from Kd.V_mk ul406_0 ge406_0)
                     clear hva_ hvn_ hvc_ ge406_0 ul406_0 hcc406 hce406
                     have HR406_0 := zA hi406_0
                     have HC406_0 := zA hl406_0
                     clear hi406_0 hl406_0
                     replace p406 := eq_true p406
                     replace q406 := eq_true q406
                     refine start_ (n := 12) (S := fun w' => w'.cell? ⟨gb384, 0, none⟩ = some (.int .i64 a0_0) ∧ w'.cell? ⟨gb384, 1, none⟩ = some (.slice A0_1 l0_1.length c0_1) ∧ w'.cell? (ad406.add (x13_3).toNat) = some (.slice A406_0 (rd_L1 x10_4 x13_3).length c406_0)) (ds := []) #[false, false, false, false, false, false, false, false, false, false, false, false] (by kernel_rfl) rfl rfl ⟨(kV BK384.out 0).trans rfl, (kV BK384.out 1).trans rfl, hx406_0⟩ (fun hHeld => ?_); refine with_tabW spec_ConjugatorOf.tab18 spec_ConjugatorOf.bits18 (fun HT_ HW_ => ?_)
                     generalize wr.drew = w54 at HO_10 HO_11 HO_12 BK384 HB HL406_0 HR406_0 hx406_0 hHeld ⊢
                     refine zp 1 (some 72) #[false, true, false, false, false, false, false, false, false, false, false, false] HT_.out ?_
                     refine zp 2 (some 73) #[false, true, true, false, false, false, false, false, false, false, false, false] HT_.out ?_
                     refine zp 3 (some 74) #[false, true, true, true, false, false, false, false, false, false, false, false] HT_.out ?_
                     refine zp 5 (some 76) #[false, true, true, true, false, true, false, false, false, false, false, false] HT_.out ?_
                     refine ze 0 (some 71) #[true, true, true, true, false, true, false, false, false, false, false, false] HT_.out HW_.out hHeld ?_
                     refine ze 4 (some 75) #[true, true, true, true, true, true, false, false, false, false, false, false] HT_.out HW_.out hHeld ?_
                     refine one_ (i := 6) (N := some 77) #[true, true, true, true, true, true, true, false, false, false, false, false] rfl rfl (one_of HT_.out (by kernel_rfl)) (by decide) (fun K hK => ?_)
                     refine goes_ Tryd.func27 (by kernel_rfl) rfl #[.agg #[.int .i64 a0_0, .slice A0_1 l0_1.length c0_1], .slice A406_0 (rd_L1 x10_4 x13_3).length c406_0, .int .i64 x14_4] (by rfl) rfl rfl zg ?_
                     with_reducible refine (spec_l07Rotate.calls k4 a0_0 _ _ l0_1 _ _ (rd_L1 x10_4 x13_3) x14_4 t407 true _ ?side1 ?side2 ?side3 ?side4 A44.out).mono ?_
                     (case side1 => exact zS (kO HR0_1.out HB.out))
                     (case side2 => exact HC0_1.out)
                     (case side3 => repeat (first | exact (by repeat (first | (with_reducible exact HR406_0.out) | (with_reducible refine Kd.C_alloc ?_ _) | (with_reducible refine Kd.C_drewN ?_ _) | (with_reducible refine Kd.C_drew ?_) | exact HR406_0.out)) | (with_reducible refine Kd.C_alloc ?_ _) | (with_reducible refine Kd.C_drewN ?_ _) | (with_reducible refine Kd.C_drew ?_)))
                     (case side4 => exact HC406_0.out)
                     rintro e w56 ⟨v408, rfl, ho0, hb⟩
                     have HS2_ := (hb.cell (jG _ _ (hHeld.2.2))).trans (hHeld.2.2)
                     refine ⟨_, rfl, ?_⟩
                     replace HO_10 := zA (Kd.N_elder' (zPN HO_10.out) (kC ho0) hb)
                     replace HO_11 := zA (Kd.N_elder' (zPN HO_11.out) (kC ho0) hb)
                     replace HL406_0 := zA (kK (zPV HL406_0.out) (kC ho0) hb)
                     have HO409 := zA (kI (kF (Kd.R_newM (M := fun k_ => (w.heap.size ≤ k_)) ho0 (kP (zT HB.out GE384.out)) (fun k_ h_ => h_)) (kH (zP HO_12.out))) (kP (zT HB.out GE384.out)))
                     replace HO_12 := zA (kE (zP HO_12.out) (kC ho0) hb)
                     replace BK384 := zA (zB1 BK384.out hb)
                     replace HR406_0 := zA (kO (by repeat (first | (with_reducible exact HR406_0.out) | (with_reducible refine Kd.C_alloc ?_ _) | (with_reducible refine Kd.C_drewN ?_ _) | (with_reducible refine Kd.C_drew ?_) | exact HR406_0.out)) hb)
                     replace HB := zA (kQ (zT HB.out GE384.out) hb)
                     (try clear hb)
                     (try clear hb2)
                     (try clear hk)
                     (try clear hi)
                     (try clear hgw)
                     (try clear ho0)
                     refine hK.out _ _ ⟨(kV BK384.out 0).trans rfl, (kV BK384.out 1).trans rfl, HS2_⟩ (fun hHeld => ?_)
                     clear hK K
                     refine norm_ (a' := ?_) ?_ ?_
                     rotate_left
                     ·show Act.put _ (some 77) _ = _
                      simp only [Act.put, zL, zM, zN, i64_w, i32_w]
                      rfl
                     refine zp 7 (some 70) #[true, true, true, true, true, true, true, true, false, false, false, false] HT_.out ?_
                     refine zp 8 (some 78) #[true, true, true, true, true, true, true, true, true, false, false, false] HT_.out ?_
                     refine zp 9 (some 79) #[true, true, true, true, true, true, true, true, true, true, false, false] HT_.out ?_
                     refine zp 10 (some 15) #[true, true, true, true, true, true, true, true, true, true, true, false] HT_.out ?_
                     refine zp 11 (some 16) #[true, true, true, true, true, true, true, true, true, true, true, true] HT_.out ?_
                     refine done_ (done_of HT_.out (by kernel_rfl)) ?_
                     obtain ⟨Ao57, co57, eo57⟩ := kM HO409.out
                     subst eo57
                     try go_wp2_with (first | (go_at_call 20; (with_reducible refine (spec_l07Find.calls k4 _ _ x10_4 _ _ t407 t411 _ ?side1 ?side2 ?side3 ?side4 A46.out).mono ?_); (case side1 => exact zS (Kd.N_reads' HO_10.out).2.2); (case side2 => exact (Kd.N_reads' HO_10.out).2.1); (case side3 => exact zS (kB HO409.out).2.2); (case side4 => exact (kB HO409.out).2.1); rintro e w' ⟨rfl, ⟨nd, rfl⟩⟩) | ((with_reducible refine gate_builtin (b := .append) (xs := #[.tmp 87, .tmp 89]) rfl ?_); at_builtin; refine Kd.N_append (Kd.slice 2 (Kd.int .i64)) (w0 := w) w.heap.size rfl (.tmp 87) (.tmp 89) 39 22 (.slice none 0 0) 24 rfl Tryd.underlying39 info22 rfl (by decide) (by omega) (.slice (some ad406) x10_4.length co55) x10_4 t407 [.slice Ao57 t407.length co57] (fun k_ => (w.heap.size ≤ k_) ∧ some k_ ≠ (u11 : Value).ownBlock ∧ some k_ ≠ (.slice Ao40 t399.length co40 : Value).ownBlock ∧ k_ ≠ gb384) (fun k_ => ((fun k_ => (w.heap.size ≤ k_) ∧ some k_ ≠ (u11 : Value).ownBlock ∧ some k_ ≠ (.slice Ao40 t399.length co40 : Value).ownBlock ∧ k_ ≠ gb384)) k_ ∧ some k_ ≠ (.slice (some ad406) x10_4.length co55 : Value).ownBlock) rfl rfl ?aP (fun _ hk => hk) ?aF ?aO ?aB ?aS ?aL ?_; (case aP => exact (Kd.FK_slice_mk (kB (kA (ok' := (fun k_ => ((fun k_ => (w.heap.size ≤ k_) ∧ some k_ ≠ (u11 : Value).ownBlock ∧ some k_ ≠ (.slice Ao40 t399.length co40 : Value).ownBlock ∧ k_ ≠ gb384)) k_ ∧ some k_ ≠ (.slice (some ad406) x10_4.length co55 : Value).ownBlock)) (kD (Kd.R_apart' (Kd.R_apart' (HO409.out) (Kd.N_typed HO_11.out) (by decide)) (Kd.N_typed HO_10.out) (by decide)) BK384.out (by decide)) (fun k_ hk => ⟨⟨hk.1.1.1.1.1, ⟨hk.1.1.2, ⟨hk.1.1.1.2, hk.2⟩⟩⟩, hk.1.2⟩))).2.1 (Kd.R_F (kA (ok' := (fun k_ => ((fun k_ => (w.heap.size ≤ k_) ∧ some k_ ≠ (u11 : Value).ownBlock ∧ some k_ ≠ (.slice Ao40 t399.length co40 : Value).ownBlock ∧ k_ ≠ gb384)) k_ ∧ some k_ ≠ (.slice (some ad406) x10_4.length co55 : Value).ownBlock)) (kD (Kd.R_apart' (Kd.R_apart' (HO409.out) (Kd.N_typed HO_11.out) (by decide)) (Kd.N_typed HO_10.out) (by decide)) BK384.out (by decide)) (fun k_ hk => ⟨⟨hk.1.1.1.1.1, ⟨hk.1.1.2, ⟨hk.1.1.1.2, hk.2⟩⟩⟩, hk.1.2⟩))))); (case aB => exact (zT HB.out GE384.out)); (case aF => exact (fun k_ hk => ⟨(Nat.le_trans (kP (zT HB.out GE384.out)) hk), jF (jA (zPN HO_11.out)) k_ hk, jF (kH (zP HO_12.out)) k_ hk, jE (g := gb384) (o := .cells #[.int .i64 a0_0, .slice A0_1 l0_1.length c0_1] 28 (0, 0)) (zR BK384.out) k_ hk⟩)); (case aO => exact (by (with_reducible repeat (first | apply Kd.N_alloc | apply Kd.N_drewN | apply Kd.N_drew)); exact Kd.N_mono HO_10.out (fun _ hk => ⟨hk.1.1, ⟨hk.1.2.1, ⟨hk.1.2.2.1, hk.1.2.2.2⟩⟩⟩))); (case aS => exact (kP (zT HB.out GE384.out))); (case aL => have := LMc48.out; omega); intro v413 w58 ho hb hg hat; rw [← Ny412.out] at ho; replace HO_11 := zA (Kd.N_afterv (ok := (fun k_ => (w.heap.size ≤ k_) ∧ some k_ ≠ (.slice Ao40 t399.length co40 : Value).ownBlock ∧ some k_ ≠ (.slice Ao57 t407.length co57 : Value).ownBlock ∧ k_ ≠ gb384)) (by (with_reducible repeat (first | apply Kd.N_alloc | apply Kd.N_drewN | apply Kd.N_drew)); exact Kd.N_mono HO_11.out (fun _ hk => ⟨⟨hk.1.1, ⟨hk.1.2.2.1, ⟨hk.2, hk.1.2.2.2⟩⟩⟩, hk.1.2.1⟩)) hg hat); replace HO_12 := zA (Kd.R_over' (zP HO_12.out) (Kd.N_typed (zPN HO_10.out)) (by decide) hg); replace BK384 := zA (blk_grown (g := gb384) (o := .cells #[.int .i64 a0_0, .slice A0_1 l0_1.length c0_1] 28 (0, 0)) (zR BK384.out) hg (Kd.N_ne HO_10.out BK384.out (by decide))); replace HL406_0 := zA (Kd.V_afterv (ok := (fun k_ => (w.heap.size ≤ k_) ∧ some k_ ≠ (u11 : Value).ownBlock ∧ some k_ ≠ (.slice Ao40 t399.length co40 : Value).ownBlock ∧ some k_ ≠ (.slice Ao57 t407.length co57 : Value).ownBlock ∧ k_ ≠ gb384)) (by (with_reducible repeat (first | apply Kd.V_alloc | apply Kd.V_drewN | apply Kd.V_drew)); exact kN HL406_0.out (fun _ hk => ⟨⟨hk.1.1.1, ⟨hk.1.1.2.1, ⟨hk.1.1.2.2.1, ⟨hk.2, hk.1.1.2.2.2⟩⟩⟩⟩, hk.1.2⟩)) hg hat); replace HB := zA (hb); have HO414 := zA (ho); clear HO_10 HO409; clear ho hb hg hat; obtain ⟨Ao59, co59, eo59⟩ := Kd.N_slice HO_11.out; subst eo59; have p415 : 0 ≤ (x13_3 : Int) := zd; have q415 : x13_3 < (x11_4.length : Int) := zd; obtain ⟨ad415, A415_0, c415_0, e415, hx415_0, hl415_0, hi415_0⟩ := at_L1 (Kd.N_reads' HO_11.out).2.2 x13_3 p415 q415; cases e415; obtain ⟨ce415, hce415, hMe415, hcc415⟩ := Kd.N_get HO_11.out [] x13_3 p415 (by first | exact q415 | exact zd | (have e_ := (Kd.N_reads' HO_11.out).1; omega)); obtain ⟨ua415_0, uc415_0, rfl, ul415_0, ge415_0⟩ := Kd.FK_slice_open hMe415; have hv415_0 := hcc415 0 _ rfl; rw [Nat.add_zero, show ((Kd.slice 2 (Kd.int .i64))).sz = 1 from rfl, Nat.mul_one] at hv415_0; replace hv415_0 := Option.some.inj (hv415_0.symm.trans hx415_0); injection hv415_0 with hva_ hvn_ hvc_; rw [hva_] at ge415_0; rw [hvc_] at ul415_0; have HL415_0 := zA (show Kd.V (Kd.int .i64) 2 _ w.heap.size _ _ (rd_L1 x11_4 x13_3) from Kd.V_mk ul415_0 ge415_0); clear hva_ hvn_ hvc_ ge415_0 ul415_0; clear hcc415 hce415; have HR415_0 := zA hi415_0; have HC415_0 := zA hl415_0; clear hi415_0 hl415_0; replace p415 := eq_true p415; replace q415 := eq_true q415) | (refine zO (some 96) Tryd.func28 #[.slice A415_0 (rd_L1 x11_4 x13_3).length c415_0] ?_; (with_reducible refine (spec_l01Own.calls _ _ (rd_L1 x11_4 x13_3) t416 _ ?side1 ?side2 A50.out).mono ?_); (case side1 => repeat (first | exact (by repeat (first | (with_reducible exact HR415_0.out) | (with_reducible refine Kd.C_alloc ?_ _) | (with_reducible refine Kd.C_drewN ?_ _) | (with_reducible refine Kd.C_drew ?_) | exact HR415_0.out)) | (with_reducible refine Kd.C_alloc ?_ _) | (with_reducible refine Kd.C_drewN ?_ _) | (with_reducible refine Kd.C_drew ?_))); (case side2 => exact HC415_0.out); rintro e w60 ⟨v417, rfl, ho0, hb⟩; refine ⟨_, rfl, ?_⟩; replace HO_11 := zA (Kd.N_elder' (zPN HO_11.out) (kC ho0) hb); replace HL406_0 := zA (kK (zPV HL406_0.out) (kC ho0) hb); replace HO414 := zA (Kd.N_elder' (zPN HO414.out) (kC ho0) hb); replace HL415_0 := zA (kK (zPV HL415_0.out) (kC ho0) hb); have HO418 := zA (kI (kF (Kd.R_newM (M := fun k_ => (w.heap.size ≤ k_)) ho0 (kP (zT HB.out GE384.out)) (fun k_ h_ => h_)) (kH (zP HO_12.out))) (kP (zT HB.out GE384.out))); replace HO_12 := zA (kE (zP HO_12.out) (kC ho0) hb); replace BK384 := zA (zB1 BK384.out hb); replace HR415_0 := zA (kO (by repeat (first | (with_reducible exact HR415_0.out) | (with_reducible refine Kd.C_alloc ?_ _) | (with_reducible refine Kd.C_drewN ?_ _) | (with_reducible refine Kd.C_drew ?_) | exact HR415_0.out)) hb); replace HB := zA (kQ (zT HB.out GE384.out) hb); (try clear hb); (try clear ho0)) | ((with_reducible refine gate_builtin (b := .append) (xs := #[.tmp 96, .tmp 98]) rfl ?_); at_builtin; refine Kd.R_append (Kd.int .i64) (w0 := w) w.heap.size rfl (.tmp 96) (.tmp 98) 22 2 (.int .i64 0) 8 rfl Tryd.underlying22 info2 rfl (by decide) (by omega) v417 t416 x14_4 [.int .i64 x14_4] (fun k_ => (w.heap.size ≤ k_) ∧ some k_ ≠ (.slice Ao40 t399.length co40 : Value).ownBlock) (fun _ => False) rfl rfl ?aP (fun _ hk => hk.elim) ?aF ?aO ?aB ?aS ?aL ?_; (case aP => exact rfl); (case aB => exact (zT HB.out GE384.out)); (case aF => exact (fun k_ hk => ⟨(Nat.le_trans (kP (zT HB.out GE384.out)) hk), jF (kH (zP HO_12.out)) k_ hk⟩)); (case aO => exact (by (with_reducible repeat (first | apply zF | apply zG | apply zH)); exact kA HO418.out (fun _ hk => ⟨hk.1.1, hk.2⟩))); (case aS => exact (kP (zT HB.out GE384.out))); (case aL => have := LMc51.out; omega); intro v420 w61 ho hb hg hat; rw [← Ny419.out] at ho; replace HO_11 := zA (Kd.N_afterv (ok := (fun k_ => (w.heap.size ≤ k_) ∧ some k_ ≠ (.slice Ao40 t399.length co40 : Value).ownBlock ∧ some k_ ≠ (v413 : Value).ownBlock ∧ k_ ≠ gb384)) (by (with_reducible repeat (first | apply Kd.N_alloc | apply Kd.N_drewN | apply Kd.N_drew)); exact Kd.N_mono HO_11.out (fun _ hk => ⟨⟨hk.1.1.1, ⟨hk.1.1.2.1, ⟨hk.1.2, hk.1.1.2.2.2⟩⟩⟩, hk.2⟩)) hg hat); replace HO_12 := zA (Kd.R_after (ok := (fun k_ => (w.heap.size ≤ k_))) (by (with_reducible repeat (first | apply zF | apply zG | apply zH)); exact kA HO_12.out (fun _ hk => ⟨hk.1.1, hk.2⟩)) hg hat); replace BK384 := zA (blk_grown (g := gb384) (o := .cells #[.int .i64 a0_0, .slice A0_1 l0_1.length c0_1] 28 (0, 0)) (zR BK384.out) hg (Kd.R_ne HO418.out BK384.out (by decide))); replace HL406_0 := zA (Kd.V_afterv (ok := (fun k_ => (w.heap.size ≤ k_) ∧ some k_ ≠ (.slice (some ad415) x11_4.length co59 : Value).ownBlock ∧ some k_ ≠ (.slice Ao40 t399.length co40 : Value).ownBlock ∧ some k_ ≠ (v413 : Value).ownBlock ∧ k_ ≠ gb384)) (by (with_reducible repeat (first | apply Kd.V_alloc | apply Kd.V_drewN | apply Kd.V_drew)); exact kN HL406_0.out (fun _ hk => ⟨⟨hk.1.1.1, ⟨hk.1.1.2.1, ⟨hk.1.1.2.2.1, ⟨hk.1.2, hk.1.1.2.2.2.2⟩⟩⟩⟩, hk.2⟩)) hg hat); replace HO414 := zA (Kd.N_afterv (ok := (fun k_ => (w.heap.size ≤ k_) ∧ some k_ ≠ (.slice (some ad415) x11_4.length co59 : Value).ownBlock ∧ some k_ ≠ (.slice Ao40 t399.length co40 : Value).ownBlock ∧ k_ ≠ gb384)) (zPN HO414.out) hg hat); replace HL415_0 := zA (Kd.V_afterv (ok := (fun k_ => (w.heap.size ≤ k_) ∧ some k_ ≠ (.slice (some ad415) x11_4.length co59 : Value).ownBlock ∧ some k_ ≠ (.slice Ao40 t399.length co40 : Value).ownBlock ∧ some k_ ≠ (v413 : Value).ownBlock ∧ k_ ≠ gb384)) (by (with_reducible repeat (first | apply Kd.V_alloc | apply Kd.V_drewN | apply Kd.V_drew)); exact kN HL415_0.out (fun _ hk => ⟨⟨hk.1.1.1.1, ⟨hk.1.2, ⟨hk.1.1.1.2.1, ⟨hk.1.1.2, hk.1.1.1.2.2.2⟩⟩⟩⟩, hk.2⟩)) hg hat); replace HB := zA (hb); have HO421 := zA (ho); clear HO418; clear ho hb hg hat; obtain ⟨Ao63, co63, eo63⟩ := kM HO421.out; subst eo63) | ((with_reducible refine gate_builtin (b := .append) (xs := #[.tmp 91, .tmp 100]) rfl ?_); at_builtin; refine Kd.N_append (Kd.slice 2 (Kd.int .i64)) (w0 := w) w.heap.size rfl (.tmp 91) (.tmp 100) 39 22 (.slice none 0 0) 24 rfl Tryd.underlying39 info22 rfl (by decide) (by omega) (.slice (some ad415) x11_4.length co59) x11_4 y419 [.slice Ao63 y419.length co63] (fun k_ => (w.heap.size ≤ k_) ∧ some k_ ≠ (.slice Ao40 t399.length co40 : Value).ownBlock ∧ some k_ ≠ (v413 : Value).ownBlock ∧ k_ ≠ gb384) (fun k_ => ((fun k_ => (w.heap.size ≤ k_) ∧ some k_ ≠ (.slice Ao40 t399.length co40 : Value).ownBlock ∧ some k_ ≠ (v413 : Value).ownBlock ∧ k_ ≠ gb384)) k_ ∧ some k_ ≠ (.slice (some ad415) x11_4.length co59 : Value).ownBlock) rfl rfl ?aP (fun _ hk => hk) ?aF ?aO ?aB ?aS ?aL ?_; (case aP => exact (Kd.FK_slice_mk (kB (kA (ok' := (fun k_ => ((fun k_ => (w.heap.size ≤ k_) ∧ some k_ ≠ (.slice Ao40 t399.length co40 : Value).ownBlock ∧ some k_ ≠ (v413 : Value).ownBlock ∧ k_ ≠ gb384)) k_ ∧ some k_ ≠ (.slice (some ad415) x11_4.length co59 : Value).ownBlock)) (kD (Kd.R_apart' (Kd.R_apart' (HO421.out) (Kd.N_typed HO414.out) (by decide)) (Kd.N_typed HO_11.out) (by decide)) BK384.out (by decide)) (fun k_ hk => ⟨⟨hk.1.1.1.1, ⟨hk.1.1.1.2, ⟨hk.1.1.2, hk.2⟩⟩⟩, hk.1.2⟩))).2.1 (Kd.R_F (kA (ok' := (fun k_ => ((fun k_ => (w.heap.size ≤ k_) ∧ some k_ ≠ (.slice Ao40 t399.length co40 : Value).ownBlock ∧ some k_ ≠ (v413 : Value).ownBlock ∧ k_ ≠ gb384)) k_ ∧ some k_ ≠ (.slice (some ad415) x11_4.length co59 : Value).ownBlock)) (kD (Kd.R_apart' (Kd.R_apart' (HO421.out) (Kd.N_typed HO414.out) (by decide)) (Kd.N_typed HO_11.out) (by decide)) BK384.out (by decide)) (fun k_ hk => ⟨⟨hk.1.1.1.1, ⟨hk.1.1.1.2, ⟨hk.1.1.2, hk.2⟩⟩⟩, hk.1.2⟩))))); (case aB => exact (zT HB.out GE384.out)); (case aF => exact (fun k_ hk => ⟨(Nat.le_trans (kP (zT HB.out GE384.out)) hk), jF (kH (zP HO_12.out)) k_ hk, jF (jA (zPN HO414.out)) k_ hk, jE (g := gb384) (o := .cells #[.int .i64 a0_0, .slice A0_1 l0_1.length c0_1] 28 (0, 0)) (zR BK384.out) k_ hk⟩)); (case aO => exact (by (with_reducible repeat (first | apply Kd.N_alloc | apply Kd.N_drewN | apply Kd.N_drew)); exact Kd.N_mono HO_11.out (fun _ hk => ⟨hk.1.1, ⟨hk.1.2.1, ⟨hk.1.2.2.1, hk.1.2.2.2⟩⟩⟩))); (case aS => exact (kP (zT HB.out GE384.out))); (case aL => have := LMc52.out; omega); intro v423 w62 ho hb hg hat; rw [← Ny422.out] at ho; replace HO_12 := zA (Kd.R_over' (zP HO_12.out) (Kd.N_typed (zPN HO_11.out)) (by decide) hg); replace BK384 := zA (blk_grown (g := gb384) (o := .cells #[.int .i64 a0_0, .slice A0_1 l0_1.length c0_1] 28 (0, 0)) (zR BK384.out) hg (Kd.N_ne HO_11.out BK384.out (by decide))); replace HL406_0 := zA (Kd.V_afterv (ok := (fun k_ => (w.heap.size ≤ k_) ∧ some k_ ≠ (.slice Ao40 t399.length co40 : Value).ownBlock ∧ some k_ ≠ (v413 : Value).ownBlock ∧ some k_ ≠ (.slice Ao63 y419.length co63 : Value).ownBlock ∧ k_ ≠ gb384)) (by (with_reducible repeat (first | apply Kd.V_alloc | apply Kd.V_drewN | apply Kd.V_drew)); exact kN HL406_0.out (fun _ hk => ⟨⟨hk.1.1, ⟨hk.1.2.2.1, ⟨hk.1.2.2.2.1, ⟨hk.2, hk.1.2.2.2.2⟩⟩⟩⟩, hk.1.2.1⟩)) hg hat); replace HO414 := zA (Kd.N_afterv (ok := (fun k_ => (w.heap.size ≤ k_) ∧ some k_ ≠ (.slice Ao40 t399.length co40 : Value).ownBlock ∧ some k_ ≠ (.slice Ao63 y419.length co63 : Value).ownBlock ∧ k_ ≠ gb384)) (by (with_reducible repeat (first | apply Kd.N_alloc | apply Kd.N_drewN | apply Kd.N_drew)); exact Kd.N_mono HO414.out (fun _ hk => ⟨⟨hk.1.1, ⟨hk.1.2.2.1, ⟨hk.2, hk.1.2.2.2⟩⟩⟩, hk.1.2.1⟩)) hg hat); replace HL415_0 := zA (Kd.V_afterv (ok := (fun k_ => (w.heap.size ≤ k_) ∧ some k_ ≠ (.slice Ao40 t399.length co40 : Value).ownBlock ∧ some k_ ≠ (v413 : Value).ownBlock ∧ some k_ ≠ (.slice Ao63 y419.length co63 : Value).ownBlock ∧ k_ ≠ gb384)) (by (with_reducible repeat (first | apply Kd.V_alloc | apply Kd.V_drewN | apply Kd.V_drew)); exact kN HL415_0.out (fun _ hk => ⟨⟨hk.1.1, ⟨hk.1.2.2.1, ⟨hk.1.2.2.2.1, ⟨hk.2, hk.1.2.2.2.2⟩⟩⟩⟩, hk.1.2.1⟩)) hg hat); replace HB := zA (hb); have HO424 := zA (ho); clear HO_11 HO421; clear ho hb hg hat))
                     go_roundg k4
                     case measure => have := HJ4.out; have := HJ9.out; have := HK3.out; have := HK4.out; omega
                     case rel => exact ⟨(y412), (y422), (wrap64 (x14_4 + 1)), zs, H', ⟨by have := HJ4.out; have := HJ9.out; have := HK3.out; have := HK4.out; omega⟩, ⟨by (with_reducible repeat (first | apply Kd.N_alloc | apply Kd.N_drewN | apply Kd.N_drew)); exact Kd.N_mono HO414.out (fun _ hk => ⟨hk.1.1, ⟨hk.2, ⟨hk.1.2.1, hk.1.2.2.2⟩⟩⟩)⟩, ⟨by (with_reducible repeat (first | apply Kd.N_alloc | apply Kd.N_drewN | apply Kd.N_drew)); exact Kd.N_mono HO424.out (fun _ hk => ⟨hk.1, ⟨hk.2.2.1, ⟨hk.2.1, hk.2.2.2⟩⟩⟩)⟩, ⟨zPM HO_12.out (fun _ hk => hk.1)⟩, ⟨zR BK384.out⟩, ⟨zT HB.out GE384.out⟩⟩
                    rw [if_neg c52] at H
                    exact absurd H (by simp)
                   rw [if_neg c51] at H
                   exact absurd H (by simp)
                  rw [if_neg c49] at H
                  exact absurd H (by simp)
                 rw [if_neg c48] at H
                 exact absurd H (by simp)
                rw [if_neg c47] at H
                have c47b0 : decide (t411 < 0) = false := decide_eq_false c47
                clear c47
                have H' := zA H
                clear H
                obtain ⟨hcz64_0, hcz64_1, hfz64_0, hfz64_1⟩ := zB3 BK384.out
                try go_wp2
                replace HO_10 := zA (Kd.N_drew HO_10.out)
                replace HO_11 := zA (Kd.N_drew HO_11.out)
                replace HO_12 := zA (zH HO_12.out)
                replace BK384 := zA (zK BK384.out)
                replace HB := zA (zD HB.out)
                obtain ⟨Ao66, co66, eo66⟩ := Kd.N_slice HO_10.out
                (first | subst eo66 | (injection eo66 with f1_ f2_ f3_; have f4_ := f1_.symm; have f5_ := f3_.symm; clear f1_ f2_ f3_; subst f4_; subst f5_))
                have p406 : 0 ≤ (x13_3 : Int) := zd
                have q406 : x13_3 < (x10_4.length : Int) := zd
                obtain ⟨ad406, A406_0, c406_0, e406, hx406_0, hl406_0, hi406_0⟩ := at_L1 (Kd.N_reads' HO_10.out).2.2 x13_3 p406 q406
                cases e406
                obtain ⟨ce406, hce406, hMe406, hcc406⟩ := Kd.N_get HO_10.out [] x13_3 p406 (by first | exact q406 | exact zd | (have e_ := (Kd.N_reads' HO_10.out).1; omega))
                obtain ⟨ua406_0, uc406_0, rfl, ul406_0, ge406_0⟩ := Kd.FK_slice_open hMe406
                have hv406_0 := hcc406 0 _ rfl
                rw [Nat.add_zero, show ((Kd.slice 2 (Kd.int .i64))).sz = 1 from rfl, Nat.mul_one] at hv406_0
                replace hv406_0 := Option.some.inj (hv406_0.symm.trans hx406_0)
                injection hv406_0 with hva_ hvn_ hvc_
                rw [hva_] at ge406_0
                rw [hvc_] at ul406_0
                have HL406_0 := zA (show Kd.V (Kd.int .i64) 2 _ w.heap.size _ _ (rd_L1 x10_4 x13_3) from Kd.V_mk ul406_0 ge406_0)
                clear hva_ hvn_ hvc_ ge406_0 ul406_0 hcc406 hce406
                have HR406_0 := zA hi406_0
                have HC406_0 := zA hl406_0
                clear hi406_0 hl406_0
                replace p406 := eq_true p406
                replace q406 := eq_true q406
                refine start_ (n := 12) (S := fun w' => w'.cell? ⟨gb384, 0, none⟩ = some (.int .i64 a0_0) ∧ w'.cell? ⟨gb384, 1, none⟩ = some (.slice A0_1 l0_1.length c0_1) ∧ w'.cell? (ad406.add (x13_3).toNat) = some (.slice A406_0 (rd_L1 x10_4 x13_3).length c406_0)) (ds := []) #[false, false, false, false, false, false, false, false, false, false, false, false] (by kernel_rfl) rfl rfl ⟨(kV BK384.out 0).trans rfl, (kV BK384.out 1).trans rfl, hx406_0⟩ (fun hHeld => ?_); refine with_tabW spec_ConjugatorOf.tab18 spec_ConjugatorOf.bits18 (fun HT_ HW_ => ?_)
                generalize wr.drew = w65 at HO_10 HO_11 HO_12 BK384 HB HL406_0 HR406_0 hx406_0 hHeld ⊢
                refine zp 1 (some 72) #[false, true, false, false, false, false, false, false, false, false, false, false] HT_.out ?_
                refine zp 2 (some 73) #[false, true, true, false, false, false, false, false, false, false, false, false] HT_.out ?_
                refine zp 3 (some 74) #[false, true, true, true, false, false, false, false, false, false, false, false] HT_.out ?_
                refine zp 5 (some 76) #[false, true, true, true, false, true, false, false, false, false, false, false] HT_.out ?_
                refine ze 0 (some 71) #[true, true, true, true, false, true, false, false, false, false, false, false] HT_.out HW_.out hHeld ?_
                refine ze 4 (some 75) #[true, true, true, true, true, true, false, false, false, false, false, false] HT_.out HW_.out hHeld ?_
                refine one_ (i := 6) (N := some 77) #[true, true, true, true, true, true, true, false, false, false, false, false] rfl rfl (one_of HT_.out (by kernel_rfl)) (by decide) (fun K hK => ?_)
                refine goes_ Tryd.func27 (by kernel_rfl) rfl #[.agg #[.int .i64 a0_0, .slice A0_1 l0_1.length c0_1], .slice A406_0 (rd_L1 x10_4 x13_3).length c406_0, .int .i64 x14_4] (by rfl) rfl rfl zg ?_
                with_reducible refine (spec_l07Rotate.calls k4 a0_0 _ _ l0_1 _ _ (rd_L1 x10_4 x13_3) x14_4 t407 true _ ?side1 ?side2 ?side3 ?side4 A44.out).mono ?_
                (case side1 => exact zS (kO HR0_1.out HB.out))
                (case side2 => exact HC0_1.out)
                (case side3 => repeat (first | exact (by repeat (first | (with_reducible exact HR406_0.out) | (with_reducible refine Kd.C_alloc ?_ _) | (with_reducible refine Kd.C_drewN ?_ _) | (with_reducible refine Kd.C_drew ?_) | exact HR406_0.out)) | (with_reducible refine Kd.C_alloc ?_ _) | (with_reducible refine Kd.C_drewN ?_ _) | (with_reducible refine Kd.C_drew ?_)))
                (case side4 => exact HC406_0.out)
                rintro e w67 ⟨v408, rfl, ho0, hb⟩
                have HS2_ := (hb.cell (jG _ _ (hHeld.2.2))).trans (hHeld.2.2)
                refine ⟨_, rfl, ?_⟩
                replace HO_10 := zA (Kd.N_elder' (zPN HO_10.out) (kC ho0) hb)
                replace HO_11 := zA (Kd.N_elder' (zPN HO_11.out) (kC ho0) hb)
                replace HL406_0 := zA (kK (zPV HL406_0.out) (kC ho0) hb)
                have HO409 := zA (kI (kF (Kd.R_newM (M := fun k_ => (w.heap.size ≤ k_)) ho0 (kP (zT HB.out GE384.out)) (fun k_ h_ => h_)) (kH (zP HO_12.out))) (kP (zT HB.out GE384.out)))
                replace HO_12 := zA (kE (zP HO_12.out) (kC ho0) hb)
                replace BK384 := zA (zB1 BK384.out hb)
                replace HR406_0 := zA (kO (by repeat (first | (with_reducible exact HR406_0.out) | (with_reducible refine Kd.C_alloc ?_ _) | (with_reducible refine Kd.C_drewN ?_ _) | (with_reducible refine Kd.C_drew ?_) | exact HR406_0.out)) hb)
                replace HB := zA (kQ (zT HB.out GE384.out) hb)
                (try clear hb)
                (try clear hb2)
                (try clear hk)
                (try clear hi)
                (try clear hgw)
                (try clear ho0)
                refine hK.out _ _ ⟨(kV BK384.out 0).trans rfl, (kV BK384.out 1).trans rfl, HS2_⟩ (fun hHeld => ?_)
                clear hK K
                refine norm_ (a' := ?_) ?_ ?_
                rotate_left
                ·show Act.put _ (some 77) _ = _
                 simp only [Act.put, zL, zM, zN, i64_w, i32_w]
                 rfl
                refine zp 7 (some 70) #[true, true, true, true, true, true, true, true, false, false, false, false] HT_.out ?_
                refine zp 8 (some 78) #[true, true, true, true, true, true, true, true, true, false, false, false] HT_.out ?_
                refine zp 9 (some 79) #[true, true, true, true, true, true, true, true, true, true, false, false] HT_.out ?_
                refine zp 10 (some 15) #[true, true, true, true, true, true, true, true, true, true, true, false] HT_.out ?_
                refine zp 11 (some 16) #[true, true, true, true, true, true, true, true, true, true, true, true] HT_.out ?_
                refine done_ (done_of HT_.out (by kernel_rfl)) ?_
                obtain ⟨Ao68, co68, eo68⟩ := kM HO409.out
                subst eo68
                try go_wp2_with (first | (go_at_call 20; (with_reducible refine (spec_l07Find.calls k4 _ _ x10_4 _ _ t407 t411 _ ?side1 ?side2 ?side3 ?side4 A46.out).mono ?_); (case side1 => exact zS (Kd.N_reads' HO_10.out).2.2); (case side2 => exact (Kd.N_reads' HO_10.out).2.1); (case side3 => exact zS (kB HO409.out).2.2); (case side4 => exact (kB HO409.out).2.1); rintro e w' ⟨rfl, ⟨nd, rfl⟩⟩))
                go_roundg k4
                case measure => have := HJ4.out; have := HJ9.out; have := HK3.out; have := HK4.out; omega
                case rel => exact ⟨(x10_4), (x11_4), (wrap64 (x14_4 + 1)), zs, H', ⟨by have := HJ4.out; have := HJ9.out; have := HK3.out; have := HK4.out; omega⟩, ⟨by (with_reducible repeat (first | apply Kd.N_alloc | apply Kd.N_drewN | apply Kd.N_drew)); exact Kd.N_mono HO_10.out (fun _ hk => ⟨hk.1.1, ⟨hk.1.2.1, ⟨hk.1.2.2.1, hk.1.2.2.2⟩⟩⟩)⟩, ⟨by (with_reducible repeat (first | apply Kd.N_alloc | apply Kd.N_drewN | apply Kd.N_drew)); exact Kd.N_mono HO_11.out (fun _ hk => ⟨hk.1.1, ⟨hk.1.2.1, ⟨hk.1.2.2.1, hk.1.2.2.2⟩⟩⟩)⟩, ⟨zPM HO_12.out (fun _ hk => hk.1)⟩, ⟨zR BK384.out⟩, ⟨zT HB.out GE384.out⟩⟩
               replace c45 := Bool.eq_false_iff.mpr c45
               subst c45
               rw [if_neg (show ¬ (false = true) by decide)] at H
               have H' := zA H
               clear H
               obtain ⟨hcz69_0, hcz69_1, hfz69_0, hfz69_1⟩ := zB3 BK384.out
               try go_wp2
               replace HO_10 := zA (Kd.N_drew HO_10.out)
               replace HO_11 := zA (Kd.N_drew HO_11.out)
               replace HO_12 := zA (zH HO_12.out)
               replace BK384 := zA (zK BK384.out)
               replace HB := zA (zD HB.out)
               obtain ⟨Ao71, co71, eo71⟩ := Kd.N_slice HO_10.out
               (first | subst eo71 | (injection eo71 with f1_ f2_ f3_; have f4_ := f1_.symm; have f5_ := f3_.symm; clear f1_ f2_ f3_; subst f4_; subst f5_))
               have p406 : 0 ≤ (x13_3 : Int) := zd
               have q406 : x13_3 < (x10_4.length : Int) := zd
               obtain ⟨ad406, A406_0, c406_0, e406, hx406_0, hl406_0, hi406_0⟩ := at_L1 (Kd.N_reads' HO_10.out).2.2 x13_3 p406 q406
               cases e406
               obtain ⟨ce406, hce406, hMe406, hcc406⟩ := Kd.N_get HO_10.out [] x13_3 p406 (by first | exact q406 | exact zd | (have e_ := (Kd.N_reads' HO_10.out).1; omega))
               obtain ⟨ua406_0, uc406_0, rfl, ul406_0, ge406_0⟩ := Kd.FK_slice_open hMe406
               have hv406_0 := hcc406 0 _ rfl
               rw [Nat.add_zero, show ((Kd.slice 2 (Kd.int .i64))).sz = 1 from rfl, Nat.mul_one] at hv406_0
               replace hv406_0 := Option.some.inj (hv406_0.symm.trans hx406_0)
               injection hv406_0 with hva_ hvn_ hvc_
               rw [hva_] at ge406_0
               rw [hvc_] at ul406_0
               have HL406_0 := zA (show Kd.V (Kd.int .i64) 2 _ w.heap.size _ _ (rd_L1 x10_4 x13_3) from Kd.V_mk ul406_0 ge406_0)
               clear hva_ hvn_ hvc_ ge406_0 ul406_0 hcc406 hce406
               have HR406_0 := zA hi406_0
               have HC406_0 := zA hl406_0
               clear hi406_0 hl406_0
               replace p406 := eq_true p406
               replace q406 := eq_true q406
               refine start_ (n := 12) (S := fun w' => w'.cell? ⟨gb384, 0, none⟩ = some (.int .i64 a0_0) ∧ w'.cell? ⟨gb384, 1, none⟩ = some (.slice A0_1 l0_1.length c0_1) ∧ w'.cell? (ad406.add (x13_3).toNat) = some (.slice A406_0 (rd_L1 x10_4 x13_3).length c406_0)) (ds := []) #[false, false, false, false, false, false, false, false, false, false, false, false] (by kernel_rfl) rfl rfl ⟨(kV BK384.out 0).trans rfl, (kV BK384.out 1).trans rfl, hx406_0⟩ (fun hHeld => ?_); refine with_tabW spec_ConjugatorOf.tab18 spec_ConjugatorOf.bits18 (fun HT_ HW_ => ?_)
               generalize wr.drew = w70 at HO_10 HO_11 HO_12 BK384 HB HL406_0 HR406_0 hx406_0 hHeld ⊢
               refine zp 1 (some 72) #[false, true, false, false, false, false, false, false, false, false, false, false] HT_.out ?_
               refine zp 2 (some 73) #[false, true, true, false, false, false, false, false, false, false, false, false] HT_.out ?_
               refine zp 3 (some 74) #[false, true, true, true, false, false, false, false, false, false, false, false] HT_.out ?_
               refine zp 5 (some 76) #[false, true, true, true, false, true, false, false, false, false, false, false] HT_.out ?_
               refine ze 0 (some 71) #[true, true, true, true, false, true, false, false, false, false, false, false] HT_.out HW_.out hHeld ?_
               refine ze 4 (some 75) #[true, true, true, true, true, true, false, false, false, false, false, false] HT_.out HW_.out hHeld ?_
               refine one_ (i := 6) (N := some 77) #[true, true, true, true, true, true, true, false, false, false, false, false] rfl rfl (one_of HT_.out (by kernel_rfl)) (by decide) (fun K hK => ?_)
               refine goes_ Tryd.func27 (by kernel_rfl) rfl #[.agg #[.int .i64 a0_0, .slice A0_1 l0_1.length c0_1], .slice A406_0 (rd_L1 x10_4 x13_3).length c406_0, .int .i64 x14_4] (by rfl) rfl rfl zg ?_
               with_reducible refine (spec_l07Rotate.calls k4 a0_0 _ _ l0_1 _ _ (rd_L1 x10_4 x13_3) x14_4 t407 false _ ?side1 ?side2 ?side3 ?side4 A44.out).mono ?_
               (case side1 => exact zS (kO HR0_1.out HB.out))
               (case side2 => exact HC0_1.out)
               (case side3 => repeat (first | exact (by repeat (first | (with_reducible exact HR406_0.out) | (with_reducible refine Kd.C_alloc ?_ _) | (with_reducible refine Kd.C_drewN ?_ _) | (with_reducible refine Kd.C_drew ?_) | exact HR406_0.out)) | (with_reducible refine Kd.C_alloc ?_ _) | (with_reducible refine Kd.C_drewN ?_ _) | (with_reducible refine Kd.C_drew ?_)))
               (case side4 => exact HC406_0.out)
               rintro e w72 ⟨v408, rfl, ho0, hb⟩
               have HS2_ := (hb.cell (jG _ _ (hHeld.2.2))).trans (hHeld.2.2)
               refine ⟨_, rfl, ?_⟩
               replace HO_10 := zA (Kd.N_elder' (zPN HO_10.out) (kC ho0) hb)
               replace HO_11 := zA (Kd.N_elder' (zPN HO_11.out) (kC ho0) hb)
               replace HL406_0 := zA (kK (zPV HL406_0.out) (kC ho0) hb)
               have HO409 := zA (kI (kF (Kd.R_newM (M := fun k_ => (w.heap.size ≤ k_)) ho0 (kP (zT HB.out GE384.out)) (fun k_ h_ => h_)) (kH (zP HO_12.out))) (kP (zT HB.out GE384.out)))
               replace HO_12 := zA (kE (zP HO_12.out) (kC ho0) hb)
               replace BK384 := zA (zB1 BK384.out hb)
               replace HR406_0 := zA (kO (by repeat (first | (with_reducible exact HR406_0.out) | (with_reducible refine Kd.C_alloc ?_ _) | (with_reducible refine Kd.C_drewN ?_ _) | (with_reducible refine Kd.C_drew ?_) | exact HR406_0.out)) hb)
               replace HB := zA (kQ (zT HB.out GE384.out) hb)
               (try clear hb)
               (try clear hb2)
               (try clear hk)
               (try clear hi)
               (try clear hgw)
               (try clear ho0)
               refine hK.out _ _ ⟨(kV BK384.out 0).trans rfl, (kV BK384.out 1).trans rfl, HS2_⟩ (fun hHeld => ?_)
               clear hK K
               refine norm_ (a' := ?_) ?_ ?_
               rotate_left
               ·show Act.put _ (some 77) _ = _
                simp only [Act.put, zL, zM, zN, i64_w, i32_w]
                rfl
               refine zp 7 (some 70) #[true, true, true, true, true, true, true, true, false, false, false, false] HT_.out ?_
               refine zp 8 (some 78) #[true, true, true, true, true, true, true, true, true, false, false, false] HT_.out ?_
               refine zp 9 (some 79) #[true, true, true, true, true, true, true, true, true, true, false, false] HT_.out ?_
               refine zp 10 (some 15) #[true, true, true, true, true, true, true, true, true, true, true, false] HT_.out ?_
               refine zp 11 (some 16) #[true, true, true, true, true, true, true, true, true, true, true, true] HT_.out ?_
               refine done_ (done_of HT_.out (by kernel_rfl)) ?_
               try go_wp2
               go_roundg k4
               case measure => have := HJ4.out; have := HJ9.out; have := HK3.out; have := HK4.out; omega
               case rel => exact ⟨(x10_4), (x11_4), (wrap64 (x14_4 + 1)), zs, H', ⟨by have := HJ4.out; have := HJ9.out; have := HK3.out; have := HK4.out; omega⟩, ⟨by (with_reducible repeat (first | apply Kd.N_alloc | apply Kd.N_drewN | apply Kd.N_drew)); exact Kd.N_mono HO_10.out (fun _ hk => ⟨hk.1.1, ⟨hk.1.2.1, ⟨hk.1.2.2.1, hk.1.2.2.2⟩⟩⟩)⟩, ⟨by (with_reducible repeat (first | apply Kd.N_alloc | apply Kd.N_drewN | apply Kd.N_drew)); exact Kd.N_mono HO_11.out (fun _ hk => ⟨hk.1.1, ⟨hk.1.2.1, ⟨hk.1.2.2.1, hk.1.2.2.2⟩⟩⟩)⟩, ⟨zPM HO_12.out (fun _ hk => hk.1)⟩, ⟨zR BK384.out⟩, ⟨zT HB.out GE384.out⟩⟩
              rw [if_neg c43] at H
              exact absurd H (by simp)
             rw [if_neg c42] at H
             exact absurd H (by simp)
            rw [if_neg c41] at H
            have c41b0 : decide (x14_4 < a0_0) = false := decide_eq_false c41
            clear c41
            have H' := zA H
            clear H
            obtain ⟨hcz73_0, hcz73_1, hfz73_0, hfz73_1⟩ := zB3 BK384.out
            go_wp2
            go_roundg k4
            case measure => have := HJ4.out; have := HJ9.out; have := HK3.out; have := HK4.out; omega
            case rel => exact ⟨(x10_4), (x11_4), (wrap64 (x13_3 + 1)), zs, H', ⟨by have := HJ4.out; have := HJ9.out; have := HK3.out; have := HK4.out; omega⟩, ⟨zPN HO_10.out⟩, ⟨zPN HO_11.out⟩, ⟨zP HO_12.out⟩, ⟨zR BK384.out⟩, ⟨zT HB.out GE384.out⟩⟩
         rw [if_neg c28] at H
         exact absurd H (by simp)
        rw [if_neg c27] at H
        have c27b0 : decide (x13_3 < (x10_3.length : Int)) = false := decide_eq_false c27
        clear c27
        simp only [Option.some.injEq, Prod.mk.injEq] at H
        obtain ⟨rfl, rfl⟩ := H
        obtain ⟨Ao74, co74, eo74⟩ := Kd.N_slice HO_10.out
        subst eo74
        go_wp2
        go_ret2
        exact ⟨_, zr, (by exact Kd.V_nil _ _ _ _ _), zT HB.out GE384.out⟩
     rw [if_neg c12] at H
     obtain ⟨c12b0, c12b1⟩ := zT2 c12
     simp only [Option.some.injEq, Prod.mk.injEq] at H
     obtain ⟨rfl, rfl⟩ := H
     go_wp2
     go_ret2
     exact ⟨_, zr, (by exact Kd.V_nil _ _ _ _ _), zT HB.out GE384.out⟩

/-! ### impl_ConjugatorOf: function 13 -/
def impl_ConjugatorOf.f (k : Nat) (a0_0 : Int) (l0_1 : List Int) (l1 : List Int) (l2 : List Int) : Option (List Int × Int) := (impl_checkConjugates.f k a0_0 l0_1 l1 (([l2] : List (List Int)))).bind fun bt429 => (if bt429.2 = 0 then ((impl_Alphabet_ties.f a0_0 l0_1).bind fun t433 => ((impl_ties_normal.f k t433 l2).bind fun t436 => ((impl_conjugator.f bt429.1 t436).bind fun bt439 => (if bt439.2 = true then (if (bt439.1.length : Int) > 24 then (some (([] : List Int), 3)) else ((slices_Clone_int64_int64.f bt439.1).bind fun t443 => (some (t443, 0)))) else (some (([] : List Int), 4)))))) else (some (([] : List Int), bt429.2)))

set_option maxHeartbeats 8000000 in
set_option maxRecDepth 100000 in
theorem impl_ConjugatorOf.calls (k : Nat) (a0_0 : Int) (P0_1_ : Nat → Prop) (A0_1 : Option Addr) (c0_1 : Nat) (l0_1 : List Int) (P1_ : Nat → Prop) (A1 : Option Addr) (c1 : Nat) (l1 : List Int) (P2_ : Nat → Prop) (A2 : Option Addr) (c2 : Nat) (l2 : List Int) (r1 : List Int) (r2 : Int) (w : World) (hs0_1 : Kd.V (Kd.int .i64) 2 w w.heap.size (fun k_ => P0_1_ k_) (.slice A0_1 l0_1.length c0_1) l0_1) (hs1 : Kd.V (Kd.int .i64) 2 w w.heap.size (fun k_ => P1_ k_) (.slice A1 l1.length c1) l1) (hs2 : Kd.V (Kd.int .i64) 2 w w.heap.size (fun k_ => P2_ k_) (.slice A2 l2.length c2) l2) (hT : TabW w) (h : impl_ConjugatorOf.f k a0_0 l0_1 l1 l2 = some (r1, r2)) :
  Calls Tryd.prog 13 #[.agg #[.int .i64 a0_0, .slice A0_1 l0_1.length c0_1], .slice A1 l1.length c1, .slice A2 l2.length c2] w fun e w' => ∃ v0_ : Value, e = .returned (.tuple #[v0_, .int .i64 r2]) ∧ Kd.R (Kd.int .i64) 2 w' w.heap.size (fun k_ => (w.heap.size ≤ k_)) v0_ r1 ∧ Below w.heap.size w w' := by
 have hu28 := Tryd.underlying28
 have HT := zA hT
 clear hT
 have HO0_1 := zA (show Kd.V (Kd.int .i64) 2 w w.heap.size (fun k_ => ((P0_1_ k_ ∨ P1_ k_ ∨ P2_ k_) ∨ w.heap.size ≤ k_)) (.slice A0_1 l0_1.length c0_1) l0_1 from kN hs0_1 (fun k_ hk => .inl (.inl hk)))
 have HO1 := zA (show Kd.V (Kd.int .i64) 2 w w.heap.size (fun k_ => ((P0_1_ k_ ∨ P1_ k_ ∨ P2_ k_) ∨ w.heap.size ≤ k_)) (.slice A1 l1.length c1) l1 from kN hs1 (fun k_ hk => .inl (.inr (.inl hk))))
 have HO2 := zA (show Kd.V (Kd.int .i64) 2 w w.heap.size (fun k_ => ((P0_1_ k_ ∨ P1_ k_ ∨ P2_ k_) ∨ w.heap.size ≤ k_)) (.slice A2 l2.length c2) l2 from kN hs2 (fun k_ hk => .inl (.inr (.inr hk))))
 have HB := zA (kW w.heap.size w)
 have H := h
 unfold impl_ConjugatorOf.f at H
 clear h
 obtain ⟨y426, hy426⟩ : ∃ y_ : List (List Int), y_ = (([l2] : List (List Int))) := ⟨_, rfl⟩
 replace H : ((impl_checkConjugates.f k a0_0 l0_1 l1 y426).bind fun bt429 => (if bt429.2 = 0 then ((impl_Alphabet_ties.f a0_0 l0_1).bind fun t433 => ((impl_ties_normal.f k t433 l2).bind fun t436 => ((impl_conjugator.f bt429.1 t436).bind fun bt439 => (if bt439.2 = true then (if (bt439.1.length : Int) > 24 then (some (([] : List Int), 3)) else ((slices_Clone_int64_int64.f bt439.1).bind fun t443 => (some (t443, 0)))) else (some (([] : List Int), 4)))))) else (some (([] : List Int), bt429.2)))) = some (r1, r2) := zy hy426 H
 have Ny426 := zA hy426
 clear hy426
 obtain ⟨⟨t429, t432⟩, A4, H⟩ := zb H
 try dsimp only at H
 by_cases c5 : t432 = 0
 ·rw [if_pos c5] at H
  obtain ⟨c5b0, c5b1⟩ := zT1 c5
  clear c5
  obtain ⟨t433, A6, H⟩ := zb H
  try dsimp only at H
  obtain ⟨t436, A7, H⟩ := zb H
  try dsimp only at H
  obtain ⟨⟨t439, t442⟩, A8, H⟩ := zb H
  try dsimp only at H
  by_cases c9 : t442 = true
  ·subst c9
   rw [if_pos rfl] at H
   by_cases c10 : (t439.length : Int) > 24
   ·rw [if_pos c10] at H
    have c10b0 : decide (24 < (t439.length : Int)) = true := decide_eq_true c10
    have c10b1 : decide (24 < t439.length) = true := decide_eq_true (by omega)
    clear c10
    simp only [Option.some.injEq, Prod.mk.injEq] at H
    obtain ⟨rfl, rfl⟩ := H
    go_enter Tryd.func13, Tryd.ntmps13
    go_wp2_with (first | (refine zBE 3 #[.int .i64 a0_0, .slice A0_1 l0_1.length c0_1] 28 ?_; intro gb425 hg w11 hbox hb; replace HO0_1 := zA (kG (jD (zPV HO0_1.out) gb425 (Nat.le_of_eq hg.symm)) hb); replace HO1 := zA (kG (jD (zPV HO1.out) gb425 (Nat.le_of_eq hg.symm)) hb); replace HO2 := zA (kG (jD (zPV HO2.out) gb425 (Nat.le_of_eq hg.symm)) hb); have BK425 := zA (hbox); have GW425 := zA (zBH hg HB.out); have GE425 := zA (zBH hg HB.out); replace HB := zA (kQ (zQ HB.out) hb); clear hb hbox hg; obtain ⟨hcz12_0, hcz12_1, hfz12_0, hfz12_1⟩ := zB3 BK425.out) | ((with_reducible refine kS (N := 16) rfl ?_); refine Kd.N_lit (Kd.slice 2 (Kd.int .i64)) _ 22 ?hg (N' := 16) ?hd (xs := ([l2] : List (List Int))) (inner := [.slice A2 l2.length c2]) (ok := (fun k_ => ((P0_1_ k_ ∨ P1_ k_ ∨ P2_ k_) ∨ w.heap.size ≤ k_) ∧ k_ ≠ gb425)) (okp := (fun k_ => ((P0_1_ k_ ∨ P1_ k_ ∨ P2_ k_) ∨ w.heap.size ≤ k_) ∧ k_ ≠ gb425)) ?hr ?hp (fun _ hk => hk) ((show ∀ k_ : Nat, (_ : Nat) ≤ k_ → (fun k_ => ((P0_1_ k_ ∨ P1_ k_ ∨ P2_ k_) ∨ w.heap.size ≤ k_) ∧ k_ ≠ gb425) k_ from fun k_ hk => ⟨(.inr (Nat.le_trans (kP (zT HB.out GE425.out)) hk)), jE (g := gb425) (o := .cells #[.int .i64 a0_0, .slice A0_1 l0_1.length c0_1] 28 (0, 0)) (zR BK425.out) k_ hk⟩) _ (Nat.le_refl _)) (kW _ _) (Nat.le_refl _) (by simp) ?_; (case hd => rfl); (case hg => rfl); (case hr => first | (go_simp; done) | (go_simp; rfl)); (case hp => exact (Reps.one (show Kd.FK (Kd.slice 2 (Kd.int .i64)) _ _ l2 [.slice A2 l2.length c2] from (zFK (kN (ok' := (fun k_ => ((P0_1_ k_ ∨ P1_ k_ ∨ P2_ k_) ∨ w.heap.size ≤ k_) ∧ k_ ≠ gb425)) (HO2.out) (fun k_ hk => ⟨hk.1, hk.2⟩)))) (Reps.none _ _))); intro v427 w13 ho14 hb hg_ hnew_; clear hg_ hnew_; (first | rw [← Ny426.out] at ho14 | (simp only [Int.reduceToNat] at ho14; rw [← Ny426.out] at ho14)); replace HO0_1 := zA (kK (zPV HO0_1.out) (Kd.N_base ho14) hb); replace HO1 := zA (kK (zPV HO1.out) (Kd.N_base ho14) hb); replace HO2 := zA (kK (zPV HO2.out) (Kd.N_base ho14) hb); have HO428 := zA (jN ho14 (kP (zT HB.out GE425.out))); replace BK425 := zA (zB1 BK425.out hb); replace HB := zA (kQ (zT HB.out GE425.out) hb); clear hb ho14; obtain ⟨Ao15, co15, eo15⟩ := Kd.N_slice HO428.out; subst eo15) | (refine zO (some 17) Tryd.func22 #[.agg #[.int .i64 a0_0, .slice A0_1 l0_1.length c0_1], .slice A1 l1.length c1, .slice Ao15 y426.length co15] ?_; (with_reducible refine (impl_checkConjugates.calls k a0_0 (fun k_ => ((((P0_1_ k_ ∨ P1_ k_ ∨ P2_ k_) ∨ w.heap.size ≤ k_) ∧ k_ ≠ gb425) ∧ some k_ ≠ (.slice Ao15 y426.length co15 : Value).ownBlock)) _ _ l0_1 (fun k_ => ((((P0_1_ k_ ∨ P1_ k_ ∨ P2_ k_) ∨ w.heap.size ≤ k_) ∧ k_ ≠ gb425) ∧ some k_ ≠ (.slice Ao15 y426.length co15 : Value).ownBlock)) _ _ l1 (fun k_ => (((P0_1_ k_ ∨ P1_ k_ ∨ P2_ k_) ∨ w.heap.size ≤ k_) ∧ k_ ≠ gb425)) _ _ y426 t429 t432 _ ?side1 ?side2 ?side3 ?side4 A4.out).mono ?_); (case side1 => exact HO0_1.out); (case side2 => exact HO1.out); (case side3 => exact Kd.N_V (HO428.out)); (case side4 => exact TabW.below HT.out (zT HB.out GE425.out)); rintro e w16 ⟨v430, rfl, ho0, hb⟩; refine ⟨_, rfl, ?_⟩; replace HO0_1 := zA (kK (zPV HO0_1.out) (Kd.N_base ho0) hb); replace HO1 := zA (kK (zPV HO1.out) (Kd.N_base ho0) hb); replace HO2 := zA (kK (zPV HO2.out) (Kd.N_base ho0) hb); replace HO428 := zA (Kd.N_elder' (zPN HO428.out) (Kd.N_base ho0) hb); have HO431 := zA (jN (Kd.N_mono (ok' := fun k_ => ((P0_1_ k_ ∨ P1_ k_ ∨ P2_ k_) ∨ w.heap.size ≤ k_) ∧ k_ ≠ gb425) ho0 (fun k_ hk_ => ⟨Or.elim hk_ (fun hs_ => Or.elim hs_ (fun hs_ => hs_.1.1) (fun hs_ => Or.elim hs_ (fun hs_ => hs_.1.1) (fun hs_ => hs_.1))) (fun hn_ => (.inr (Nat.le_trans (kP (zT HB.out GE425.out)) hn_))), Or.elim hk_ (fun hs_ => Or.elim hs_ (fun hs_ => hs_.1.2) (fun hs_ => Or.elim hs_ (fun hs_ => hs_.1.2) (fun hs_ => hs_.2))) (fun hn_ => (jE (g := gb425) (o := .cells #[.int .i64 a0_0, .slice A0_1 l0_1.length c0_1] 28 (0, 0)) (zR BK425.out) k_ hn_))⟩)) (kP (zT HB.out GE425.out))); replace BK425 := zA (zB1 BK425.out hb); replace HB := zA (kQ (zT HB.out GE425.out) hb); (try clear hb); (try clear ho0); obtain ⟨hcz17_0, hcz17_1, hfz17_0, hfz17_1⟩ := zB3 BK425.out) | (refine zO (some 26) Tryd.func24 #[.agg #[.int .i64 a0_0, .slice A0_1 l0_1.length c0_1]] ?_; (with_reducible refine (impl_Alphabet_ties.calls a0_0 (fun k_ => (((((P0_1_ k_ ∨ P1_ k_ ∨ P2_ k_) ∨ w.heap.size ≤ k_) ∧ k_ ≠ gb425) ∧ some k_ ≠ (.slice Ao15 y426.length co15 : Value).ownBlock) ∧ some k_ ≠ (v430 : Value).ownBlock)) _ _ l0_1 t433 _ ?side1 A6.out).mono ?_); (case side1 => exact HO0_1.out); rintro e w18 ⟨v434, rfl, ho0, hb⟩; refine ⟨_, rfl, ?_⟩; replace HO0_1 := zA (kG (zPV HO0_1.out) hb); replace HO1 := zA (kG (zPV HO1.out) hb); replace HO2 := zA (kG (zPV HO2.out) hb); have HO435 := zA (jM (kN (ok' := fun k_ => ((P0_1_ k_ ∨ P1_ k_ ∨ P2_ k_) ∨ w.heap.size ≤ k_) ∧ some k_ ≠ (.slice Ao15 y426.length co15 : Value).ownBlock ∧ some k_ ≠ (v430 : Value).ownBlock ∧ k_ ≠ gb425) ho0 (fun k_ hk_ => ⟨Or.elim hk_ (fun hs_ => hs_.1.1.1) (fun hn_ => (.inr (Nat.le_trans (kP (zT HB.out GE425.out)) hn_))), Or.elim hk_ (fun hs_ => hs_.1.2) (fun hn_ => (jF (jA (zPN HO428.out)) k_ hn_)), Or.elim hk_ (fun hs_ => hs_.2) (fun hn_ => (jF (jA (zPN HO431.out)) k_ hn_)), Or.elim hk_ (fun hs_ => hs_.1.1.2) (fun hn_ => (jE (g := gb425) (o := .cells #[.int .i64 a0_0, .slice A0_1 l0_1.length c0_1] 28 (0, 0)) (zR BK425.out) k_ hn_))⟩)) (kP (zT HB.out GE425.out))); replace HO428 := zA (kZ (zPN HO428.out) hb); replace HO431 := zA (kZ (zPN HO431.out) hb); replace BK425 := zA (zB1 BK425.out hb); replace HB := zA (kQ (zT HB.out GE425.out) hb); (try clear hb); (try clear ho0); obtain ⟨Ao19, co19, eo19⟩ := Kd.V_slice HO435.out; subst eo19) | (refine zO (some 28) Tryd.func25 #[.slice Ao19 t433.length co19, .slice A2 l2.length c2] ?_; (with_reducible refine (impl_ties_normal.calls k _ _ t433 (fun k_ => (((((P0_1_ k_ ∨ P1_ k_ ∨ P2_ k_) ∨ w.heap.size ≤ k_) ∧ k_ ≠ gb425) ∧ some k_ ≠ (.slice Ao15 y426.length co15 : Value).ownBlock) ∧ some k_ ≠ (v430 : Value).ownBlock)) _ _ l2 t436 _ ?side1 ?side2 ?side3 ?side4 A7.out).mono ?_); (case side1 => exact zS (kJ HO435.out).2.2); (case side2 => exact (kJ HO435.out).2.1); (case side3 => exact HO2.out); (case side4 => exact TabW.below HT.out (zT HB.out GE425.out)); rintro e w20 ⟨v437, rfl, ho0, hb⟩; refine ⟨_, rfl, ?_⟩; replace HO0_1 := zA (kK (zPV HO0_1.out) (kC ho0) hb); replace HO1 := zA (kK (zPV HO1.out) (kC ho0) hb); replace HO2 := zA (kK (zPV HO2.out) (kC ho0) hb); replace HO428 := zA (Kd.N_elder' (zPN HO428.out) (kC ho0) hb); replace HO431 := zA (Kd.N_elder' (zPN HO431.out) (kC ho0) hb); replace HO435 := zA (kK (zPV HO435.out) (kC ho0) hb); have HO438 := zA (kI (Kd.R_newM (M := fun k_ => (w.heap.size ≤ k_)) (kA (ok' := fun k_ => True) ho0 (fun _ hk_ => trivial)) (kP (zT HB.out GE425.out)) (fun k_ h_ => h_)) (kP (zT HB.out GE425.out))); replace BK425 := zA (zB1 BK425.out hb); replace HB := zA (kQ (zT HB.out GE425.out) hb); (try clear hb); (try clear ho0); obtain ⟨Ao21, co21, eo21⟩ := Kd.N_slice HO431.out; subst eo21; obtain ⟨Ao22, co22, eo22⟩ := kM HO438.out; subst eo22) | (refine zO (some 29) Tryd.func23 #[.slice Ao21 t429.length co21, .slice Ao22 t436.length co22] ?_; (with_reducible refine (impl_conjugator.calls (fun k_ => ((((P0_1_ k_ ∨ P1_ k_ ∨ P2_ k_) ∨ w.heap.size ≤ k_) ∧ k_ ≠ gb425) ∧ some k_ ≠ (.slice Ao22 t436.length co22 : Value).ownBlock)) _ _ t429 _ _ t436 t439 true _ ?side1 ?side2 ?side3 A8.out).mono ?_); (case side1 => exact Kd.N_V (HO431.out)); (case side2 => exact zS (kB HO438.out).2.2); (case side3 => exact (kB HO438.out).2.1); rintro e w23 ⟨v440, rfl, ho0, hb⟩; refine ⟨_, rfl, ?_⟩; replace HO0_1 := zA (kG (zPV HO0_1.out) hb); replace HO1 := zA (kG (zPV HO1.out) hb); replace HO2 := zA (kG (zPV HO2.out) hb); replace HO428 := zA (kZ (zPN HO428.out) hb); replace HO431 := zA (kZ (zPN HO431.out) hb); replace HO435 := zA (kG (zPV HO435.out) hb); have HO441 := zA (jM (kN (ok' := fun k_ => ((P0_1_ k_ ∨ P1_ k_ ∨ P2_ k_) ∨ w.heap.size ≤ k_) ∧ some k_ ≠ (.slice Ao22 t436.length co22 : Value).ownBlock ∧ k_ ≠ gb425) ho0 (fun k_ hk_ => ⟨Or.elim hk_ (fun hs_ => hs_.1.1) (fun hn_ => (.inr (Nat.le_trans (kP (zT HB.out GE425.out)) hn_))), Or.elim hk_ (fun hs_ => hs_.2) (fun hn_ => (jF (kH (zP HO438.out)) k_ hn_)), Or.elim hk_ (fun hs_ => hs_.1.2) (fun hn_ => (jE (g := gb425) (o := .cells #[.int .i64 a0_0, .slice A0_1 l0_1.length c0_1] 28 (0, 0)) (zR BK425.out) k_ hn_))⟩)) (kP (zT HB.out GE425.out))); replace HO438 := zA (kL (zP HO438.out) hb); replace BK425 := zA (zB1 BK425.out hb); replace HB := zA (kQ (zT HB.out GE425.out) hb); (try clear hb); (try clear ho0); obtain ⟨Ao24, co24, eo24⟩ := Kd.V_slice HO441.out; subst eo24))
    go_ret2
    exact ⟨_, zr, zn, zT HB.out GE425.out⟩
   rw [if_neg c10] at H
   have c10b0 : decide (24 < (t439.length : Int)) = false := decide_eq_false c10
   have c10b1 : decide (24 < t439.length) = false := decide_eq_false (by omega)
   clear c10
   obtain ⟨t443, A25, H⟩ := zb H
   try dsimp only at H
   simp only [Option.some.injEq, Prod.mk.injEq] at H
   obtain ⟨rfl, rfl⟩ := H
   go_enter Tryd.func13, Tryd.ntmps13
   go_wp2_with (first | (refine zBE 3 #[.int .i64 a0_0, .slice A0_1 l0_1.length c0_1] 28 ?_; intro gb425 hg w26 hbox hb; replace HO0_1 := zA (kG (jD (zPV HO0_1.out) gb425 (Nat.le_of_eq hg.symm)) hb); replace HO1 := zA (kG (jD (zPV HO1.out) gb425 (Nat.le_of_eq hg.symm)) hb); replace HO2 := zA (kG (jD (zPV HO2.out) gb425 (Nat.le_of_eq hg.symm)) hb); have BK425 := zA (hbox); have GW425 := zA (zBH hg HB.out); have GE425 := zA (zBH hg HB.out); replace HB := zA (kQ (zQ HB.out) hb); clear hb hbox hg; obtain ⟨hcz27_0, hcz27_1, hfz27_0, hfz27_1⟩ := zB3 BK425.out) | ((with_reducible refine kS (N := 16) rfl ?_); refine Kd.N_lit (Kd.slice 2 (Kd.int .i64)) _ 22 ?hg (N' := 16) ?hd (xs := ([l2] : List (List Int))) (inner := [.slice A2 l2.length c2]) (ok := (fun k_ => ((P0_1_ k_ ∨ P1_ k_ ∨ P2_ k_) ∨ w.heap.size ≤ k_) ∧ k_ ≠ gb425)) (okp := (fun k_ => ((P0_1_ k_ ∨ P1_ k_ ∨ P2_ k_) ∨ w.heap.size ≤ k_) ∧ k_ ≠ gb425)) ?hr ?hp (fun _ hk => hk) ((show ∀ k_ : Nat, (_ : Nat) ≤ k_ → (fun k_ => ((P0_1_ k_ ∨ P1_ k_ ∨ P2_ k_) ∨ w.heap.size ≤ k_) ∧ k_ ≠ gb425) k_ from fun k_ hk => ⟨(.inr (Nat.le_trans (kP (zT HB.out GE425.out)) hk)), jE (g := gb425) (o := .cells #[.int .i64 a0_0, .slice A0_1 l0_1.length c0_1] 28 (0, 0)) (zR BK425.out) k_ hk⟩) _ (Nat.le_refl _)) (kW _ _) (Nat.le_refl _) (by simp) ?_; (case hd => rfl); (case hg => rfl); (case hr => first | (go_simp; done) | (go_simp; rfl)); (case hp => exact (Reps.one (show Kd.FK (Kd.slice 2 (Kd.int .i64)) _ _ l2 [.slice A2 l2.length c2] from (zFK (kN (ok' := (fun k_ => ((P0_1_ k_ ∨ P1_ k_ ∨ P2_ k_) ∨ w.heap.size ≤ k_) ∧ k_ ≠ gb425)) (HO2.out) (fun k_ hk => ⟨hk.1, hk.2⟩)))) (Reps.none _ _))); intro v427 w28 ho29 hb hg_ hnew_; clear hg_ hnew_; (first | rw [← Ny426.out] at ho29 | (simp only [Int.reduceToNat] at ho29; rw [← Ny426.out] at ho29)); replace HO0_1 := zA (kK (zPV HO0_1.out) (Kd.N_base ho29) hb); replace HO1 := zA (kK (zPV HO1.out) (Kd.N_base ho29) hb); replace HO2 := zA (kK (zPV HO2.out) (Kd.N_base ho29) hb); have HO428 := zA (jN ho29 (kP (zT HB.out GE425.out))); replace BK425 := zA (zB1 BK425.out hb); replace HB := zA (kQ (zT HB.out GE425.out) hb); clear hb ho29; obtain ⟨Ao30, co30, eo30⟩ := Kd.N_slice HO428.out; subst eo30) | (refine zO (some 17) Tryd.func22 #[.agg #[.int .i64 a0_0, .slice A0_1 l0_1.length c0_1], .slice A1 l1.length c1, .slice Ao30 y426.length co30] ?_; (with_reducible refine (impl_checkConjugates.calls k a0_0 (fun k_ => ((((P0_1_ k_ ∨ P1_ k_ ∨ P2_ k_) ∨ w.heap.size ≤ k_) ∧ k_ ≠ gb425) ∧ some k_ ≠ (.slice Ao30 y426.length co30 : Value).ownBlock)) _ _ l0_1 (fun k_ => ((((P0_1_ k_ ∨ P1_ k_ ∨ P2_ k_) ∨ w.heap.size ≤ k_) ∧ k_ ≠ gb425) ∧ some k_ ≠ (.slice Ao30 y426.length co30 : Value).ownBlock)) _ _ l1 (fun k_ => (((P0_1_ k_ ∨ P1_ k_ ∨ P2_ k_) ∨ w.heap.size ≤ k_) ∧ k_ ≠ gb425)) _ _ y426 t429 t432 _ ?side1 ?side2 ?side3 ?side4 A4.out).mono ?_); (case side1 => exact HO0_1.out); (case side2 => exact HO1.out); (case side3 => exact Kd.N_V (HO428.out)); (case side4 => exact TabW.below HT.out (zT HB.out GE425.out)); rintro e w31 ⟨v430, rfl, ho0, hb⟩; refine ⟨_, rfl, ?_⟩; replace HO0_1 := zA (kK (zPV HO0_1.out) (Kd.N_base ho0) hb); replace HO1 := zA (kK (zPV HO1.out) (Kd.N_base ho0) hb); replace HO2 := zA (kK (zPV HO2.out) (Kd.N_base ho0) hb); replace HO428 := zA (Kd.N_elder' (zPN HO428.out) (Kd.N_base ho0) hb); have HO431 := zA (jN (Kd.N_mono (ok' := fun k_ => ((P0_1_ k_ ∨ P1_ k_ ∨ P2_ k_) ∨ w.heap.size ≤ k_) ∧ k_ ≠ gb425) ho0 (fun k_ hk_ => ⟨Or.elim hk_ (fun hs_ => Or.elim hs_ (fun hs_ => hs_.1.1) (fun hs_ => Or.elim hs_ (fun hs_ => hs_.1.1) (fun hs_ => hs_.1))) (fun hn_ => (.inr (Nat.le_trans (kP (zT HB.out GE425.out)) hn_))), Or.elim hk_ (fun hs_ => Or.elim hs_ (fun hs_ => hs_.1.2) (fun hs_ => Or.elim hs_ (fun hs_ => hs_.1.2) (fun hs_ => hs_.2))) (fun hn_ => (jE (g := gb425) (o := .cells #[.int .i64 a0_0, .slice A0_1 l0_1.length c0_1] 28 (0, 0)) (zR BK425.out) k_ hn_))⟩)) (kP (zT HB.out GE425.out))); replace BK425 := zA (zB1 BK425.out hb); replace HB := zA (kQ (zT HB.out GE425.out) hb); (try clear hb); (try clear ho0); obtain ⟨hcz32_0, hcz32_1, hfz32_0, hfz32_1⟩ := zB3 BK425.out) | (refine zO (some 26) Tryd.func24 #[.agg #[.int .i64 a0_0, .slice A0_1 l0_1.length c0_1]] ?_; (with_reducible refine (impl_Alphabet_ties.calls a0_0 (fun k_ => (((((P0_1_ k_ ∨ P1_ k_ ∨ P2_ k_) ∨ w.heap.size ≤ k_) ∧ k_ ≠ gb425) ∧ some k_ ≠ (.slice Ao30 y426.length co30 : Value).ownBlock) ∧ some k_ ≠ (v430 : Value).ownBlock)) _ _ l0_1 t433 _ ?side1 A6.out).mono ?_); (case side1 => exact HO0_1.out); rintro e w33 ⟨v434, rfl, ho0, hb⟩; refine ⟨_, rfl, ?_⟩; replace HO0_1 := zA (kG (zPV HO0_1.out) hb); replace HO1 := zA (kG (zPV HO1.out) hb); replace HO2 := zA (kG (zPV HO2.out) hb); have HO435 := zA (jM (kN (ok' := fun k_ => ((P0_1_ k_ ∨ P1_ k_ ∨ P2_ k_) ∨ w.heap.size ≤ k_) ∧ some k_ ≠ (.slice Ao30 y426.length co30 : Value).ownBlock ∧ some k_ ≠ (v430 : Value).ownBlock ∧ k_ ≠ gb425) ho0 (fun k_ hk_ => ⟨Or.elim hk_ (fun hs_ => hs_.1.1.1) (fun hn_ => (.inr (Nat.le_trans (kP (zT HB.out GE425.out)) hn_))), Or.elim hk_ (fun hs_ => hs_.1.2) (fun hn_ => (jF (jA (zPN HO428.out)) k_ hn_)), Or.elim hk_ (fun hs_ => hs_.2) (fun hn_ => (jF (jA (zPN HO431.out)) k_ hn_)), Or.elim hk_ (fun hs_ => hs_.1.1.2) (fun hn_ => (jE (g := gb425) (o := .cells #[.int .i64 a0_0, .slice A0_1 l0_1.length c0_1] 28 (0, 0)) (zR BK425.out) k_ hn_))⟩)) (kP (zT HB.out GE425.out))); replace HO428 := zA (kZ (zPN HO428.out) hb); replace HO431 := zA (kZ (zPN HO431.out) hb); replace BK425 := zA (zB1 BK425.out hb); replace HB := zA (kQ (zT HB.out GE425.out) hb); (try clear hb); (try clear ho0); obtain ⟨Ao34, co34, eo34⟩ := Kd.V_slice HO435.out; subst eo34) | (refine zO (some 28) Tryd.func25 #[.slice Ao34 t433.length co34, .slice A2 l2.length c2] ?_; (with_reducible refine (impl_ties_normal.calls k _ _ t433 (fun k_ => (((((P0_1_ k_ ∨ P1_ k_ ∨ P2_ k_) ∨ w.heap.size ≤ k_) ∧ k_ ≠ gb425) ∧ some k_ ≠ (.slice Ao30 y426.length co30 : Value).ownBlock) ∧ some k_ ≠ (v430 : Value).ownBlock)) _ _ l2 t436 _ ?side1 ?side2 ?side3 ?side4 A7.out).mono ?_); (case side1 => exact zS (kJ HO435.out).2.2); (case side2 => exact (kJ HO435.out).2.1); (case side3 => exact HO2.out); (case side4 => exact TabW.below HT.out (zT HB.out GE425.out)); rintro e w35 ⟨v437, rfl, ho0, hb⟩; refine ⟨_, rfl, ?_⟩; replace HO0_1 := zA (kK (zPV HO0_1.out) (kC ho0) hb); replace HO1 := zA (kK (zPV HO1.out) (kC ho0) hb); replace HO2 := zA (kK (zPV HO2.out) (kC ho0) hb); replace HO428 := zA (Kd.N_elder' (zPN HO428.out) (kC ho0) hb); replace HO431 := zA (Kd.N_elder' (zPN HO431.out) (kC ho0) hb); replace HO435 := zA (kK (zPV HO435.out) (kC ho0) hb); have HO438 := zA (kI (Kd.R_newM (M := fun k_ => (w.heap.size ≤ k_)) (kA (ok' := fun k_ => True) ho0 (fun _ hk_ => trivial)) (kP (zT HB.out GE425.out)) (fun k_ h_ => h_)) (kP (zT HB.out GE425.out))); replace BK425 := zA (zB1 BK425.out hb); replace HB := zA (kQ (zT HB.out GE425.out) hb); (try clear hb); (try clear ho0); obtain ⟨Ao36, co36, eo36⟩ := Kd.N_slice HO431.out; subst eo36; obtain ⟨Ao37, co37, eo37⟩ := kM HO438.out; subst eo37) | (refine zO (some 29) Tryd.func23 #[.slice Ao36 t429.length co36, .slice Ao37 t436.length co37] ?_; (with_reducible refine (impl_conjugator.calls (fun k_ => ((((P0_1_ k_ ∨ P1_ k_ ∨ P2_ k_) ∨ w.heap.size ≤ k_) ∧ k_ ≠ gb425) ∧ some k_ ≠ (.slice Ao37 t436.length co37 : Value).ownBlock)) _ _ t429 _ _ t436 t439 true _ ?side1 ?side2 ?side3 A8.out).mono ?_); (case side1 => exact Kd.N_V (HO431.out)); (case side2 => exact zS (kB HO438.out).2.2); (case side3 => exact (kB HO438.out).2.1); rintro e w38 ⟨v440, rfl, ho0, hb⟩; refine ⟨_, rfl, ?_⟩; replace HO0_1 := zA (kG (zPV HO0_1.out) hb); replace HO1 := zA (kG (zPV HO1.out) hb); replace HO2 := zA (kG (zPV HO2.out) hb); replace HO428 := zA (kZ (zPN HO428.out) hb); replace HO431 := zA (kZ (zPN HO431.out) hb); replace HO435 := zA (kG (zPV HO435.out) hb); have HO441 := zA (jM (kN (ok' := fun k_ => ((P0_1_ k_ ∨ P1_ k_ ∨ P2_ k_) ∨ w.heap.size ≤ k_) ∧ some k_ ≠ (.slice Ao37 t436.length co37 : Value).ownBlock ∧ k_ ≠ gb425) ho0 (fun k_ hk_ => ⟨Or.elim hk_ (fun hs_ => hs_.1.1) (fun hn_ => (.inr (Nat.le_trans (kP (zT HB.out GE425.out)) hn_))), Or.elim hk_ (fun hs_ => hs_.2) (fun hn_ => (jF (kH (zP HO438.out)) k_ hn_)), Or.elim hk_ (fun hs_ => hs_.1.2) (fun hn_ => (jE (g := gb425) (o := .cells #[.int .i64 a0_0, .slice A0_1 l0_1.length c0_1] 28 (0, 0)) (zR BK425.out) k_ hn_))⟩)) (kP (zT HB.out GE425.out))); replace HO438 := zA (kL (zP HO438.out) hb); replace BK425 := zA (zB1 BK425.out hb); replace HB := zA (kQ (zT HB.out GE425.out) hb); (try clear hb); (try clear ho0); obtain ⟨Ao39, co39, eo39⟩ := Kd.V_slice HO441.out; subst eo39) | (refine zO (some 40) Tryd.func29 #[.slice Ao39 t439.length co39] ?_; (with_reducible refine (slices_Clone_int64_int64.calls _ _ t439 t443 _ ?side1 ?side2 A25.out).mono ?_); (case side1 => exact zS (kJ HO441.out).2.2); (case side2 => exact (kJ HO441.out).2.1); rintro e w40 ⟨v444, rfl, ho0, hb⟩; refine ⟨_, rfl, ?_⟩; replace HO0_1 := zA (kK (zPV HO0_1.out) (kC ho0) hb); replace HO1 := zA (kK (zPV HO1.out) (kC ho0) hb); replace HO2 := zA (kK (zPV HO2.out) (kC ho0) hb); replace HO428 := zA (Kd.N_elder' (zPN HO428.out) (kC ho0) hb); replace HO431 := zA (Kd.N_elder' (zPN HO431.out) (kC ho0) hb); replace HO435 := zA (kK (zPV HO435.out) (kC ho0) hb); replace HO441 := zA (kK (zPV HO441.out) (kC ho0) hb); have HO445 := zA (kI (kF (Kd.R_newM (M := fun k_ => (w.heap.size ≤ k_)) ho0 (kP (zT HB.out GE425.out)) (fun k_ h_ => h_)) (kH (zP HO438.out))) (kP (zT HB.out GE425.out))); replace HO438 := zA (kE (zP HO438.out) (kC ho0) hb); replace BK425 := zA (zB1 BK425.out hb); replace HB := zA (kQ (zT HB.out GE425.out) hb); (try clear hb); (try clear ho0)))
   go_ret2
   exact ⟨_, zr, by (with_reducible repeat (first | apply zF | apply zG | apply zH)); exact kA HO445.out (fun _ hk => hk.1.1), zT HB.out GE425.out⟩
  replace c9 := Bool.eq_false_iff.mpr c9
  subst c9
  rw [if_neg (show ¬ (false = true) by decide)] at H
  simp only [Option.some.injEq, Prod.mk.injEq] at H
  obtain ⟨rfl, rfl⟩ := H
  go_enter Tryd.func13, Tryd.ntmps13
  go_wp2_with (first | (refine zBE 3 #[.int .i64 a0_0, .slice A0_1 l0_1.length c0_1] 28 ?_; intro gb425 hg w41 hbox hb; replace HO0_1 := zA (kG (jD (zPV HO0_1.out) gb425 (Nat.le_of_eq hg.symm)) hb); replace HO1 := zA (kG (jD (zPV HO1.out) gb425 (Nat.le_of_eq hg.symm)) hb); replace HO2 := zA (kG (jD (zPV HO2.out) gb425 (Nat.le_of_eq hg.symm)) hb); have BK425 := zA (hbox); have GW425 := zA (zBH hg HB.out); have GE425 := zA (zBH hg HB.out); replace HB := zA (kQ (zQ HB.out) hb); clear hb hbox hg; obtain ⟨hcz42_0, hcz42_1, hfz42_0, hfz42_1⟩ := zB3 BK425.out) | ((with_reducible refine kS (N := 16) rfl ?_); refine Kd.N_lit (Kd.slice 2 (Kd.int .i64)) _ 22 ?hg (N' := 16) ?hd (xs := ([l2] : List (List Int))) (inner := [.slice A2 l2.length c2]) (ok := (fun k_ => ((P0_1_ k_ ∨ P1_ k_ ∨ P2_ k_) ∨ w.heap.size ≤ k_) ∧ k_ ≠ gb425)) (okp := (fun k_ => ((P0_1_ k_ ∨ P1_ k_ ∨ P2_ k_) ∨ w.heap.size ≤ k_) ∧ k_ ≠ gb425)) ?hr ?hp (fun _ hk => hk) ((show ∀ k_ : Nat, (_ : Nat) ≤ k_ → (fun k_ => ((P0_1_ k_ ∨ P1_ k_ ∨ P2_ k_) ∨ w.heap.size ≤ k_) ∧ k_ ≠ gb425) k_ from fun k_ hk => ⟨(.inr (Nat.le_trans (kP (zT HB.out GE425.out)) hk)), jE (g := gb425) (o := .cells #[.int .i64 a0_0, .slice A0_1 l0_1.length c0_1] 28 (0, 0)) (zR BK425.out) k_ hk⟩) _ (Nat.le_refl _)) (kW _ _) (Nat.le_refl _) (by simp) ?_; (case hd => rfl); (case hg => rfl); (case hr => first | (go_simp; done) | (go_simp; rfl)); (case hp => exact (Reps.one (show Kd.FK (Kd.slice 2 (Kd.int .i64)) _ _ l2 [.slice A2 l2.length c2] from (zFK (kN (ok' := (fun k_ => ((P0_1_ k_ ∨ P1_ k_ ∨ P2_ k_) ∨ w.heap.size ≤ k_) ∧ k_ ≠ gb425)) (HO2.out) (fun k_ hk => ⟨hk.1, hk.2⟩)))) (Reps.none _ _))); intro v427 w43 ho44 hb hg_ hnew_; clear hg_ hnew_; (first | rw [← Ny426.out] at ho44 | (simp only [Int.reduceToNat] at ho44; rw [← Ny426.out] at ho44)); replace HO0_1 := zA (kK (zPV HO0_1.out) (Kd.N_base ho44) hb); replace HO1 := zA (kK (zPV HO1.out) (Kd.N_base ho44) hb); replace HO2 := zA (kK (zPV HO2.out) (Kd.N_base ho44) hb); have HO428 := zA (jN ho44 (kP (zT HB.out GE425.out))); replace BK425 := zA (zB1 BK425.out hb); replace HB := zA (kQ (zT HB.out GE425.out) hb); clear hb ho44; obtain ⟨Ao45, co45, eo45⟩ := Kd.N_slice HO428.out; subst eo45) | (refine zO (some 17) Tryd.func22 #[.agg #[.int .i64 a0_0, .slice A0_1 l0_1.length c0_1], .slice A1 l1.length c1, .slice Ao45 y426.length co45] ?_; (with_reducible refine (impl_checkConjugates.calls k a0_0 (fun k_ => ((((P0_1_ k_ ∨ P1_ k_ ∨ P2_ k_) ∨ w.heap.size ≤ k_) ∧ k_ ≠ gb425) ∧ some k_ ≠ (.slice Ao45 y426.length co45 : Value).ownBlock)) _ _ l0_1 (fun k_ => ((((P0_1_ k_ ∨ P1_ k_ ∨ P2_ k_) ∨ w.heap.size ≤ k_) ∧ k_ ≠ gb425) ∧ some k_ ≠ (.slice Ao45 y426.length co45 : Value).ownBlock)) _ _ l1 (fun k_ => (((P0_1_ k_ ∨ P1_ k_ ∨ P2_ k_) ∨ w.heap.size ≤ k_) ∧ k_ ≠ gb425)) _ _ y426 t429 t432 _ ?side1 ?side2 ?side3 ?side4 A4.out).mono ?_); (case side1 => exact HO0_1.out); (case side2 => exact HO1.out); (case side3 => exact Kd.N_V (HO428.out)); (case side4 => exact TabW.below HT.out (zT HB.out GE425.out)); rintro e w46 ⟨v430, rfl, ho0, hb⟩; refine ⟨_, rfl, ?_⟩; replace HO0_1 := zA (kK (zPV HO0_1.out) (Kd.N_base ho0) hb); replace HO1 := zA (kK (zPV HO1.out) (Kd.N_base ho0) hb); replace HO2 := zA (kK (zPV HO2.out) (Kd.N_base ho0) hb); replace HO428 := zA (Kd.N_elder' (zPN HO428.out) (Kd.N_base ho0) hb); have HO431 := zA (jN (Kd.N_mono (ok' := fun k_ => ((P0_1_ k_ ∨ P1_ k_ ∨ P2_ k_) ∨ w.heap.size ≤ k_) ∧ k_ ≠ gb425) ho0 (fun k_ hk_ => ⟨Or.elim hk_ (fun hs_ => Or.elim hs_ (fun hs_ => hs_.1.1) (fun hs_ => Or.elim hs_ (fun hs_ => hs_.1.1) (fun hs_ => hs_.1))) (fun hn_ => (.inr (Nat.le_trans (kP (zT HB.out GE425.out)) hn_))), Or.elim hk_ (fun hs_ => Or.elim hs_ (fun hs_ => hs_.1.2) (fun hs_ => Or.elim hs_ (fun hs_ => hs_.1.2) (fun hs_ => hs_.2))) (fun hn_ => (jE (g := gb425) (o := .cells #[.int .i64 a0_0, .slice A0_1 l0_1.length c0_1] 28 (0, 0)) (zR BK425.out) k_ hn_))⟩)) (kP (zT HB.out GE425.out))); replace BK425 := zA (zB1 BK425.out hb); replace HB := zA (kQ (zT HB.out GE425.out) hb); (try clear hb); (try clear ho0); obtain ⟨hcz47_0, hcz47_1, hfz47_0, hfz47_1⟩ := zB3 BK425.out) | (refine zO (some 26) Tryd.func24 #[.agg #[.int .i64 a0_0, .slice A0_1 l0_1.length c0_1]] ?_; (with_reducible refine (impl_Alphabet_ties.calls a0_0 (fun k_ => (((((P0_1_ k_ ∨ P1_ k_ ∨ P2_ k_) ∨ w.heap.size ≤ k_) ∧ k_ ≠ gb425) ∧ some k_ ≠ (.slice Ao45 y426.length co45 : Value).ownBlock) ∧ some k_ ≠ (v430 : Value).ownBlock)) _ _ l0_1 t433 _ ?side1 A6.out).mono ?_); (case side1 => exact HO0_1.out); rintro e w48 ⟨v434, rfl, ho0, hb⟩; refine ⟨_, rfl, ?_⟩; replace HO0_1 := zA (kG (zPV HO0_1.out) hb); replace HO1 := zA (kG (zPV HO1.out) hb); replace HO2 := zA (kG (zPV HO2.out) hb); have HO435 := zA (jM (kN (ok' := fun k_ => ((P0_1_ k_ ∨ P1_ k_ ∨ P2_ k_) ∨ w.heap.size ≤ k_) ∧ some k_ ≠ (.slice Ao45 y426.length co45 : Value).ownBlock ∧ some k_ ≠ (v430 : Value).ownBlock ∧ k_ ≠ gb425) ho0 (fun k_ hk_ => ⟨Or.elim hk_ (fun hs_ => hs_.1.1.1) (fun hn_ => (.inr (Nat.le_trans (kP (zT HB.out GE425.out)) hn_))), Or.elim hk_ (fun hs_ => hs_.1.2) (fun hn_ => (jF (jA (zPN HO428.out)) k_ hn_)), Or.elim hk_ (fun hs_ => hs_.2) (fun hn_ => (jF (jA (zPN HO431.out)) k_ hn_)), Or.elim hk_ (fun hs_ => hs_.1.1.2) (fun hn_ => (jE (g := gb425) (o := .cells #[.int .i64 a0_0, .slice A0_1 l0_1.length c0_1] 28 (0, 0)) (zR BK425.out) k_ hn_))⟩)) (kP (zT HB.out GE425.out))); replace HO428 := zA (kZ (zPN HO428.out) hb); replace HO431 := zA (kZ (zPN HO431.out) hb); replace BK425 := zA (zB1 BK425.out hb); replace HB := zA (kQ (zT HB.out GE425.out) hb); (try clear hb); (try clear ho0); obtain ⟨Ao49, co49, eo49⟩ := Kd.V_slice HO435.out; subst eo49) | (refine zO (some 28) Tryd.func25 #[.slice Ao49 t433.length co49, .slice A2 l2.length c2] ?_; (with_reducible refine (impl_ties_normal.calls k _ _ t433 (fun k_ => (((((P0_1_ k_ ∨ P1_ k_ ∨ P2_ k_) ∨ w.heap.size ≤ k_) ∧ k_ ≠ gb425) ∧ some k_ ≠ (.slice Ao45 y426.length co45 : Value).ownBlock) ∧ some k_ ≠ (v430 : Value).ownBlock)) _ _ l2 t436 _ ?side1 ?side2 ?side3 ?side4 A7.out).mono ?_); (case side1 => exact zS (kJ HO435.out).2.2); (case side2 => exact (kJ HO435.out).2.1); (case side3 => exact HO2.out); (case side4 => exact TabW.below HT.out (zT HB.out GE425.out)); rintro e w50 ⟨v437, rfl, ho0, hb⟩; refine ⟨_, rfl, ?_⟩; replace HO0_1 := zA (kK (zPV HO0_1.out) (kC ho0) hb); replace HO1 := zA (kK (zPV HO1.out) (kC ho0) hb); replace HO2 := zA (kK (zPV HO2.out) (kC ho0) hb); replace HO428 := zA (Kd.N_elder' (zPN HO428.out) (kC ho0) hb); replace HO431 := zA (Kd.N_elder' (zPN HO431.out) (kC ho0) hb); replace HO435 := zA (kK (zPV HO435.out) (kC ho0) hb); have HO438 := zA (kI (Kd.R_newM (M := fun k_ => (w.heap.size ≤ k_)) (kA (ok' := fun k_ => True) ho0 (fun _ hk_ => trivial)) (kP (zT HB.out GE425.out)) (fun k_ h_ => h_)) (kP (zT HB.out GE425.out))); replace BK425 := zA (zB1 BK425.out hb); replace HB := zA (kQ (zT HB.out GE425.out) hb); (try clear hb); (try clear ho0); obtain ⟨Ao51, co51, eo51⟩ := Kd.N_slice HO431.out; subst eo51; obtain ⟨Ao52, co52, eo52⟩ := kM HO438.out; subst eo52) | (refine zO (some 29) Tryd.func23 #[.slice Ao51 t429.length co51, .slice Ao52 t436.length co52] ?_; (with_reducible refine (impl_conjugator.calls (fun k_ => ((((P0_1_ k_ ∨ P1_ k_ ∨ P2_ k_) ∨ w.heap.size ≤ k_) ∧ k_ ≠ gb425) ∧ some k_ ≠ (.slice Ao52 t436.length co52 : Value).ownBlock)) _ _ t429 _ _ t436 t439 false _ ?side1 ?side2 ?side3 A8.out).mono ?_); (case side1 => exact Kd.N_V (HO431.out)); (case side2 => exact zS (kB HO438.out).2.2); (case side3 => exact (kB HO438.out).2.1); rintro e w53 ⟨v440, rfl, ho0, hb⟩; refine ⟨_, rfl, ?_⟩; replace HO0_1 := zA (kG (zPV HO0_1.out) hb); replace HO1 := zA (kG (zPV HO1.out) hb); replace HO2 := zA (kG (zPV HO2.out) hb); replace HO428 := zA (kZ (zPN HO428.out) hb); replace HO431 := zA (kZ (zPN HO431.out) hb); replace HO435 := zA (kG (zPV HO435.out) hb); have HO441 := zA (jM (kN (ok' := fun k_ => ((P0_1_ k_ ∨ P1_ k_ ∨ P2_ k_) ∨ w.heap.size ≤ k_) ∧ some k_ ≠ (.slice Ao52 t436.length co52 : Value).ownBlock ∧ k_ ≠ gb425) ho0 (fun k_ hk_ => ⟨Or.elim hk_ (fun hs_ => hs_.1.1) (fun hn_ => (.inr (Nat.le_trans (kP (zT HB.out GE425.out)) hn_))), Or.elim hk_ (fun hs_ => hs_.2) (fun hn_ => (jF (kH (zP HO438.out)) k_ hn_)), Or.elim hk_ (fun hs_ => hs_.1.2) (fun hn_ => (jE (g := gb425) (o := .cells #[.int .i64 a0_0, .slice A0_1 l0_1.length c0_1] 28 (0, 0)) (zR BK425.out) k_ hn_))⟩)) (kP (zT HB.out GE425.out))); replace HO438 := zA (kL (zP HO438.out) hb); replace BK425 := zA (zB1 BK425.out hb); replace HB := zA (kQ (zT HB.out GE425.out) hb); (try clear hb); (try clear ho0)))
  go_ret2
  exact ⟨_, zr, zn, zT HB.out GE425.out⟩
 rw [if_neg c5] at H
 obtain ⟨c5b0, c5b1⟩ := zT2 c5
 simp only [Option.some.injEq, Prod.mk.injEq] at H
 obtain ⟨rfl, rfl⟩ := H
 go_enter Tryd.func13, Tryd.ntmps13
 go_wp2_with (first | (refine zBE 3 #[.int .i64 a0_0, .slice A0_1 l0_1.length c0_1] 28 ?_; intro gb425 hg w54 hbox hb; replace HO0_1 := zA (kG (jD (zPV HO0_1.out) gb425 (Nat.le_of_eq hg.symm)) hb); replace HO1 := zA (kG (jD (zPV HO1.out) gb425 (Nat.le_of_eq hg.symm)) hb); replace HO2 := zA (kG (jD (zPV HO2.out) gb425 (Nat.le_of_eq hg.symm)) hb); have BK425 := zA (hbox); have GW425 := zA (zBH hg HB.out); have GE425 := zA (zBH hg HB.out); replace HB := zA (kQ (zQ HB.out) hb); clear hb hbox hg; obtain ⟨hcz55_0, hcz55_1, hfz55_0, hfz55_1⟩ := zB3 BK425.out) | ((with_reducible refine kS (N := 16) rfl ?_); refine Kd.N_lit (Kd.slice 2 (Kd.int .i64)) _ 22 ?hg (N' := 16) ?hd (xs := ([l2] : List (List Int))) (inner := [.slice A2 l2.length c2]) (ok := (fun k_ => ((P0_1_ k_ ∨ P1_ k_ ∨ P2_ k_) ∨ w.heap.size ≤ k_) ∧ k_ ≠ gb425)) (okp := (fun k_ => ((P0_1_ k_ ∨ P1_ k_ ∨ P2_ k_) ∨ w.heap.size ≤ k_) ∧ k_ ≠ gb425)) ?hr ?hp (fun _ hk => hk) ((show ∀ k_ : Nat, (_ : Nat) ≤ k_ → (fun k_ => ((P0_1_ k_ ∨ P1_ k_ ∨ P2_ k_) ∨ w.heap.size ≤ k_) ∧ k_ ≠ gb425) k_ from fun k_ hk => ⟨(.inr (Nat.le_trans (kP (zT HB.out GE425.out)) hk)), jE (g := gb425) (o := .cells #[.int .i64 a0_0, .slice A0_1 l0_1.length c0_1] 28 (0, 0)) (zR BK425.out) k_ hk⟩) _ (Nat.le_refl _)) (kW _ _) (Nat.le_refl _) (by simp) ?_; (case hd => rfl); (case hg => rfl); (case hr => first | (go_simp; done) | (go_simp; rfl)); (case hp => exact (Reps.one (show Kd.FK (Kd.slice 2 (Kd.int .i64)) _ _ l2 [.slice A2 l2.length c2] from (zFK (kN (ok' := (fun k_ => ((P0_1_ k_ ∨ P1_ k_ ∨ P2_ k_) ∨ w.heap.size ≤ k_) ∧ k_ ≠ gb425)) (HO2.out) (fun k_ hk => ⟨hk.1, hk.2⟩)))) (Reps.none _ _))); intro v427 w56 ho57 hb hg_ hnew_; clear hg_ hnew_; (first | rw [← Ny426.out] at ho57 | (simp only [Int.reduceToNat] at ho57; rw [← Ny426.out] at ho57)); replace HO0_1 := zA (kK (zPV HO0_1.out) (Kd.N_base ho57) hb); replace HO1 := zA (kK (zPV HO1.out) (Kd.N_base ho57) hb); replace HO2 := zA (kK (zPV HO2.out) (Kd.N_base ho57) hb); have HO428 := zA (jN ho57 (kP (zT HB.out GE425.out))); replace BK425 := zA (zB1 BK425.out hb); replace HB := zA (kQ (zT HB.out GE425.out) hb); clear hb ho57; obtain ⟨Ao58, co58, eo58⟩ := Kd.N_slice HO428.out; subst eo58) | (refine zO (some 17) Tryd.func22 #[.agg #[.int .i64 a0_0, .slice A0_1 l0_1.length c0_1], .slice A1 l1.length c1, .slice Ao58 y426.length co58] ?_; (with_reducible refine (impl_checkConjugates.calls k a0_0 (fun k_ => ((((P0_1_ k_ ∨ P1_ k_ ∨ P2_ k_) ∨ w.heap.size ≤ k_) ∧ k_ ≠ gb425) ∧ some k_ ≠ (.slice Ao58 y426.length co58 : Value).ownBlock)) _ _ l0_1 (fun k_ => ((((P0_1_ k_ ∨ P1_ k_ ∨ P2_ k_) ∨ w.heap.size ≤ k_) ∧ k_ ≠ gb425) ∧ some k_ ≠ (.slice Ao58 y426.length co58 : Value).ownBlock)) _ _ l1 (fun k_ => (((P0_1_ k_ ∨ P1_ k_ ∨ P2_ k_) ∨ w.heap.size ≤ k_) ∧ k_ ≠ gb425)) _ _ y426 t429 t432 _ ?side1 ?side2 ?side3 ?side4 A4.out).mono ?_); (case side1 => exact HO0_1.out); (case side2 => exact HO1.out); (case side3 => exact Kd.N_V (HO428.out)); (case side4 => exact TabW.below HT.out (zT HB.out GE425.out)); rintro e w59 ⟨v430, rfl, ho0, hb⟩; refine ⟨_, rfl, ?_⟩; replace HO0_1 := zA (kK (zPV HO0_1.out) (Kd.N_base ho0) hb); replace HO1 := zA (kK (zPV HO1.out) (Kd.N_base ho0) hb); replace HO2 := zA (kK (zPV HO2.out) (Kd.N_base ho0) hb); replace HO428 := zA (Kd.N_elder' (zPN HO428.out) (Kd.N_base ho0) hb); have HO431 := zA (jN (Kd.N_mono (ok' := fun k_ => ((P0_1_ k_ ∨ P1_ k_ ∨ P2_ k_) ∨ w.heap.size ≤ k_) ∧ k_ ≠ gb425) ho0 (fun k_ hk_ => ⟨Or.elim hk_ (fun hs_ => Or.elim hs_ (fun hs_ => hs_.1.1) (fun hs_ => Or.elim hs_ (fun hs_ => hs_.1.1) (fun hs_ => hs_.1))) (fun hn_ => (.inr (Nat.le_trans (kP (zT HB.out GE425.out)) hn_))), Or.elim hk_ (fun hs_ => Or.elim hs_ (fun hs_ => hs_.1.2) (fun hs_ => Or.elim hs_ (fun hs_ => hs_.1.2) (fun hs_ => hs_.2))) (fun hn_ => (jE (g := gb425) (o := .cells #[.int .i64 a0_0, .slice A0_1 l0_1.length c0_1] 28 (0, 0)) (zR BK425.out) k_ hn_))⟩)) (kP (zT HB.out GE425.out))); replace BK425 := zA (zB1 BK425.out hb); replace HB := zA (kQ (zT HB.out GE425.out) hb); (try clear hb); (try clear ho0)))
 go_ret2
 exact ⟨_, zr, zn, zT HB.out GE425.out⟩

/-! ### laws_markInt64S: function 15 -/
def laws_markInt64S.l0 : Nat → List Int → Int → Int → Option (Int × List Int)
 | 0, _, _, _ => none
 | k + 1, x0, x1, x5 => if x5 < (x0.length : Int) then (if 0 ≤ x5 then (laws_markInt64S.l0 k (x0.set (x5 : Int).toNat x1) (wrap64 (x1 + 1)) (wrap64 (x5 + 1))) else (none)) else (some (x1, x0))
def laws_markInt64S.f (k : Nat) (l0 : List Int) (a1 : Int) : Option (Int × List Int) := laws_markInt64S.l0 k l0 a1 0

set_option maxHeartbeats 8000000 in
set_option maxRecDepth 100000 in
theorem laws_markInt64S.calls (k : Nat) (P0_ : Nat → Prop) (u9000_ : Value) (l0 : List Int) (a1 : Int) (r1 : Int) (r2 : List Int) (w0 w : World) (hB : Below w0.heap.size w0 w) (ho0 : Kd.R (Kd.int .i64) 2 w w0.heap.size P0_ u9000_ l0) (h : laws_markInt64S.f k l0 a1 = some (r1, r2)) :
  Calls Tryd.prog 15 #[u9000_, .int .i64 a1] w fun e w' => e = .returned (.int .i64 r1) ∧ Kd.R (Kd.int .i64) 2 w' w0.heap.size (fun k_ => (P0_ k_ ∨ w.heap.size ≤ k_)) u9000_ r2 ∧ Below w0.heap.size w0 w' ∧ Kept w w' (fun k_ => P0_ k_) := by
 have HO0 := zA (show Kd.R (Kd.int .i64) 2 w w0.heap.size (fun k_ => (P0_ k_ ∨ w.heap.size ≤ k_)) u9000_ l0 from kA ho0 (fun k_ hk => (.inl hk)))
 have HK := zA (Kept.refl w (fun k_ => P0_ k_))
 have HW0 := zA hB.size
 have HB := zA hB
 clear hB
 have H := h
 unfold laws_markInt64S.f at H
 clear h
 have H' := zA H
 clear H
 go_enter Tryd.func15, Tryd.ntmps15
 go_wp2
 go_loopg [1, 5] k (fun kq v1 v5 w' => ∃ (x0_1 : List Int) (x1_1 : Int) (x5_1 : Int), v1 = .int .i64 x1_1 ∧ v5 = .int .i64 x5_1 ∧ Aside0 (laws_markInt64S.l0 kq x0_1 x1_1 x5_1 = some (r1, r2)) ∧ Aside0 (kq ≤ k) ∧ Aside0 (Kd.R (Kd.int .i64) 2 w' w0.heap.size (fun k_ => (P0_ k_ ∨ w.heap.size ≤ k_)) u9000_ x0_1) ∧ Aside0 (Kept w w' (fun k_ => P0_ k_)) ∧ Aside0 (Below w0.heap.size w0 w'))
 case atStart => exact ⟨(l0), (a1), (0), zs, zs, H', ⟨Nat.le_refl _⟩, ⟨zP HO0.out⟩, ⟨by repeat (first | (with_reducible first | exact HK.out | apply Kept.alloc | apply Kept.drewN | apply Kept.drew) | exact HK.out)⟩, ⟨zQ HB.out⟩⟩
 case round =>
  clear H'
  try clear c1
  obtain ⟨x0_1, x1_1, x5_1, rfl, rfl, HA, HK1, HO_0, HK, HB⟩ := hrel
  cases gk with
  | zero => exact absurd HA.out (by simp [laws_markInt64S.l0])
  | succ k1 =>
   have H := HA.out
   clear HA
   simp only [laws_markInt64S.l0] at H
   by_cases c3 : x5_1 < (x0_1.length : Int)
   ·rw [if_pos c3] at H
    have c3b0 : decide (x5_1 < (x0_1.length : Int)) = true := decide_eq_true c3
    clear c3
    by_cases c4 : 0 ≤ x5_1
    ·rw [if_pos c4] at H
     have c4b0 : decide (0 ≤ x5_1) = true := decide_eq_true c4
     clear c4
     obtain ⟨y446, hy446⟩ : ∃ y_ : List Int, y_ = (x0_1.set (x5_1 : Int).toNat x1_1) := ⟨_, rfl⟩
     replace H : (laws_markInt64S.l0 k1 y446 (wrap64 (x1_1 + 1)) (wrap64 (x5_1 + 1))) = some (r1, r2) := zy hy446 H
     have Ny446 := zA hy446
     clear hy446
     have H' := zA H
     clear H
     obtain ⟨Ao6, co6, eo6⟩ := kM HO_0.out
     subst eo6
     have p5 : 0 ≤ (x5_1 : Int) := zd
     have q5 : (x5_1 : Int) < ((x0_1.length : Int) : Int) := zd
     obtain ⟨go5, co5, eo5, gb5, gl5, cl5, HG5⟩ := Kd.R_form HO_0.out (by omega)
     (first | cases eo5 | (injection eo5 with ea_ en_ ec_; (first | subst ea_ | (injection ea_ with ea_; subst ea_)); subst ec_; clear en_))
     have GB5 := zA gb5
     have GG5 := zA HG5
     clear gb5 gl5 HG5
     have HMgo5 := zA (show (P0_ go5 ∨ w.heap.size ≤ go5) from (HO_0.out.1 _ rfl))
     obtain ⟨hx5_0, hf5_0⟩ := Kd.R_celln 0 HO_0.out (x5_1 : Int) p5 q5
     replace p5 := eq_true p5
     replace q5 := eq_true q5
     have HP7 := Kd.R_putg HO_0.out (x5_1 : Int) x1_1
     go_wp2_with (first | ((with_reducible refine gate_store (t := 2) (p := 15) rfl ?_); refine store_event (t := 2) (p := 15) (v := ?vo_w8) (w1 := (wr.setCell ⟨go5, (x5_1 : Int).toNat, none⟩ (.int .i64 x1_1))) ?hg ?ho ?hn ?hr ?_; (case ho => rfl); (case hg => rfl); (case hn => rfl); (case hr => first | (go_simp; done) | (go_simp; rfl)); intro w8 hw; have hg : wr.grownBy w8 (some go5) := (by rw [hw]; exact HP7.2); have hp_ : Kd.R (Kd.int .i64) 2 w8 w0.heap.size (fun k_ => (P0_ k_ ∨ w.heap.size ≤ k_)) (.slice (some ⟨go5, 0, none⟩) x0_1.length co6) y446 := (by rw [hw, Ny446.out]; exact HP7.1); clear HP7; replace HB := zA ((by rw [hw]; exact zE (HB.out) GB5.out : Below w0.heap.size w0 w8)); replace HK := zA (Kept.of_grown (S := (fun k_ => P0_ k_)) hg (by repeat (first | (with_reducible first | exact HK.out | apply Kept.alloc | apply Kept.drewN | apply Kept.drew) | exact HK.out)) (fun k_ e_ => (HO_0.out.1 k_ e_))); replace HO_0 := zA (hp_); clear hg hw hp_))
     go_roundg k1
     case measure => have := HK1.out; omega
     case rel => exact ⟨(y446), (wrap64 (x1_1 + 1)), (wrap64 (x5_1 + 1)), zs, zs, H', ⟨by have := HK1.out; omega⟩, ⟨zP HO_0.out⟩, ⟨by repeat (first | (with_reducible first | exact HK.out | apply Kept.alloc | apply Kept.drewN | apply Kept.drew) | exact HK.out)⟩, ⟨zQ HB.out⟩⟩
    rw [if_neg c4] at H
    exact absurd H (by simp)
   rw [if_neg c3] at H
   have c3b0 : decide (x5_1 < (x0_1.length : Int)) = false := decide_eq_false c3
   clear c3
   simp only [Option.some.injEq, Prod.mk.injEq] at H
   obtain ⟨rfl, rfl⟩ := H
   obtain ⟨Ao9, co9, eo9⟩ := kM HO_0.out
   subst eo9
   go_wp2
   go_ret
   exact ⟨zr, zP HO_0.out, zQ HB.out, by repeat (first | (with_reducible first | exact HK.out | apply Kept.alloc | apply Kept.drewN | apply Kept.drew) | exact HK.out)⟩

/-! ### laws_markAlphabet: function 14 -/
def laws_markAlphabet.f (k : Nat) (a0_0 : Int) (l0_1 : List Int) (a1 : Int) : Option (Int × List Int) := (laws_markInt64S.f k l0_1 a1).bind fun bt448 => (some (bt448.1, bt448.2))

set_option maxHeartbeats 8000000 in
set_option maxRecDepth 100000 in
theorem laws_markAlphabet.calls (k : Nat) (a0_0 : Int) (P0_1_ : Nat → Prop) (u9000_ : Value) (l0_1 : List Int) (a1 : Int) (r1 : Int) (r2 : List Int) (w0 w : World) (hB : Below w0.heap.size w0 w) (ho0_1 : Kd.R (Kd.int .i64) 2 w w0.heap.size P0_1_ u9000_ l0_1) (h : laws_markAlphabet.f k a0_0 l0_1 a1 = some (r1, r2)) :
  Calls Tryd.prog 14 #[.agg #[.int .i64 a0_0, u9000_], .int .i64 a1] w fun e w' => e = .returned (.int .i64 r1) ∧ Kd.R (Kd.int .i64) 2 w' w0.heap.size (fun k_ => (P0_1_ k_ ∨ w.heap.size ≤ k_)) u9000_ r2 ∧ Below w0.heap.size w0 w' ∧ Kept w w' (fun k_ => P0_1_ k_) := by
 have hu28 := Tryd.underlying28
 have HO0_1 := zA (show Kd.R (Kd.int .i64) 2 w w0.heap.size (fun k_ => (P0_1_ k_ ∨ w.heap.size ≤ k_)) u9000_ l0_1 from kA ho0_1 (fun k_ hk => (.inl hk)))
 have HK := zA (Kept.refl w (fun k_ => P0_1_ k_))
 have HW0 := zA hB.size
 have HB := zA hB
 clear hB
 have H := h
 unfold laws_markAlphabet.f at H
 clear h
 obtain ⟨⟨t448, t449⟩, A3, H⟩ := zb H
 try dsimp only at H
 simp only [Option.some.injEq, Prod.mk.injEq] at H
 obtain ⟨rfl, rfl⟩ := H
 obtain ⟨Ao4, co4, eo4⟩ := kM HO0_1.out
 subst eo4
 go_enter Tryd.func14, Tryd.ntmps14
 go_wp2_with (first | (refine zBE 2 #[.int .i64 a0_0, .slice Ao4 l0_1.length co4] 28 ?_; intro gb447 hg w5 hbox hb; replace HO0_1 := zA (kL (zP HO0_1.out) hb); have BK447 := zA (hbox); have GW447 := zA (zB6 hg (by first | exact HK.out.1 | exact (show Kept w _ (fun k_ => P0_1_ k_) from by repeat (first | (with_reducible first | exact HK.out | apply Kept.alloc | apply Kept.drewN | apply Kept.drew) | exact HK.out)).1) : w.heap.size ≤ gb447); replace HK := zA (Kept.below (S := (fun k_ => P0_1_ k_)) (by repeat (first | (with_reducible first | exact HK.out | apply Kept.alloc | apply Kept.drewN | apply Kept.drew) | exact HK.out)) hb); have GE447 := zA (zBH hg HB.out); replace HB := zA (kQ (zQ HB.out) hb); clear hb hbox hg; obtain ⟨hcz6_0, hcz6_1, hfz6_0, hfz6_1⟩ := zB3 BK447.out) | (refine zO (some 8) Tryd.func15 #[.slice Ao4 l0_1.length co4, .int .i64 a1] ?_; (with_reducible refine (laws_markInt64S.calls k (fun k_ => some k_ = (.slice Ao4 l0_1.length co4 : Value).ownBlock) (.slice Ao4 l0_1.length co4) l0_1 a1 t448 t449 w0 _ ?side1 ?side2 A3.out).mono ?_); (case side1 => exact zT HB.out GE447.out); (case side2 => exact jK rfl HO0_1.out); rintro e w7 ⟨rfl, hy0, hb, hkp⟩; refine ⟨_, rfl, ?_⟩; replace BK447 := zA (blk_kept (zR BK447.out) hkp (fun hs_ => (fun e_ => (Kd.R_ne HO0_1.out BK447.out (by decide)) e_) hs_)); replace HK := zA (Kept.then_ (S := (fun k_ => P0_1_ k_)) (by repeat (first | (with_reducible first | exact HK.out | apply Kept.alloc | apply Kept.drewN | apply Kept.drew | refine Kept.setCell ?_ (.inr GW447.out) _) | exact HK.out)) hkp (fun k_ hs_ => (fun e_ => (HO0_1.out.1 k_ e_.symm)) hs_)); replace HO0_1 := zA (Kd.R_reok rfl hy0 (fun k_ e_ => HO0_1.out.1 k_ e_)); replace HB := zA (hb); (try clear hb); (try clear hkp); (try clear hy0)))
 go_ret
 exact ⟨zr, zP HO0_1.out, zT HB.out GE447.out, by repeat (first | (with_reducible first | exact HK.out | apply Kept.alloc | apply Kept.drewN | apply Kept.drew | refine Kept.setCell ?_ (.inr GW447.out) _) | exact HK.out)⟩

end Go.Proofs.YtinkolnhpgilpaaDoor.PAll
