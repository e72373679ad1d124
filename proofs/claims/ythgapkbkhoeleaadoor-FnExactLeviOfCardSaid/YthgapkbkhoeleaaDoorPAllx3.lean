-- Printed by a program of the session (wip/tools/pgen.py) out of the translation. Not trusted: Lean checks it.
import Derived.Test.YthgapkbkhoeleaaDoorPAllx0
import Derived.Test.YthgapkbkhoeleaaDoorPAllx1
import Derived.Test.YthgapkbkhoeleaaDoorPAllx2
namespace Go.Proofs.YthgapkbkhoeleaaDoor.PAll
open Go.RowKit Go.Proofs.YthgapkbkhoeleaaDoor.T Go.Proofs.YthgapkbkhoeleaaDoorW.PrintWords Go.Proofs.YthgapkbkhoeleaaDoorW.PrintLast Go.Proofs.YthgapkbkhoeleaaDoorW.PrintMore
attribute [local go_sem] max2_int min2_int max_two min_two max_three min_three max_four min_four   -- for this text's walks alone
set_option linter.unusedVariables false
set_option linter.unusedSimpArgs false

/-! ### spec_LeviOf: function 27 -/
mutual
def spec_LeviOf.j0 : Nat → List Int → List Int → List Int → List Int → Int → Int → List Int → Option ((List (List Int)) × Int)
 | 0, _, _, _, _, _, _, _ => none
 | k + 1, x1, x2, x3, x4, x12, x223000, x223001 => if x12 = 0 then (if (wrap64 ((x1.length : Int) + (x2.length : Int))) > 24 then (spec_LeviOf.j1 k x1 x2 x3 x4 x12 true x223000 x223001) else (spec_LeviOf.j1 k x1 x2 x3 x4 x12 (decide ((wrap64 ((x3.length : Int) + (x4.length : Int))) > 24)) x223000 x223001)) else (spec_LeviOf.j1 k x1 x2 x3 x4 x12 false x223000 x223001)
def spec_LeviOf.j1 : Nat → List Int → List Int → List Int → List Int → Int → Bool → Int → List Int → Option ((List (List Int)) × Int)
 | 0, _, _, _, _, _, _, _, _ => none
 | k + 1, x1, x2, x3, x4, x12, x47, x223000, x223001 => if x47 = true then (spec_LeviOf.j2 k x1 x2 x3 x4 3 x223000 x223001) else (spec_LeviOf.j2 k x1 x2 x3 x4 x12 x223000 x223001)
def spec_LeviOf.j2 : Nat → List Int → List Int → List Int → List Int → Int → Int → List Int → Option ((List (List Int)) × Int)
 | 0, _, _, _, _, _, _, _ => none
 | k + 1, x1, x2, x3, x4, x12, x223000, x223001 => if x12 = 0 then ((spec_l01Own.f x1).bind fun t225 => (if t225.length + x2.length < 17592186044416 then ((spec_l01Own.f x3).bind fun t231 => (if t231.length + x4.length < 17592186044416 then ((spec_l03Same.f k x223000 x223001 (t225 ++ x2) (t231 ++ x4)).bind fun t237 => (spec_LeviOf.j3 k x1 x2 x3 x12 (!t237) x223000 x223001)) else (none))) else (none))) else (spec_LeviOf.j3 k x1 x2 x3 x12 false x223000 x223001)
def spec_LeviOf.j3 : Nat → List Int → List Int → List Int → Int → Bool → Int → List Int → Option ((List (List Int)) × Int)
 | 0, _, _, _, _, _, _, _ => none
 | k + 1, x1, x2, x3, x12, x62, x223000, x223001 => if x62 = true then (spec_LeviOf.j4 k x1 x2 x3 5 x223000 x223001) else (spec_LeviOf.j4 k x1 x2 x3 x12 x223000 x223001)
def spec_LeviOf.j4 : Nat → List Int → List Int → List Int → Int → Int → List Int → Option ((List (List Int)) × Int)
 | 0, _, _, _, _, _, _ => none
 | k + 1, x1, x2, x3, x12, x223000, x223001 => if x12 = 0 then ((spec_l05Meet.f k x223000 x223001 x1 x3).bind fun t238 => ((spec_l05Cut.f k x223000 x223001 t238 x1).bind fun bt241 => ((spec_l05Cut.f k x223000 x223001 t238 x3).bind fun bt245 => ((spec_l05Cut.f k x223000 x223001 bt245.1 x2).bind fun bt249 => ((spec_l03Normal.f k x223000 x223001 t238).bind fun t253 => ((spec_l03Normal.f k x223000 x223001 bt241.1).bind fun t256 => ((spec_l03Normal.f k x223000 x223001 bt245.1).bind fun t259 => ((spec_l03Normal.f k x223000 x223001 bt249.1).bind fun t262 => (some ((([t253, t256, t259, t262] : List (List Int))), 0)))))))))) else (some (([] : List (List Int)), x12))
end
def spec_LeviOf.f (k : Nat) (a0_0 : Int) (l0_1 : List Int) (l1 : List Int) (l2 : List Int) (l3 : List Int) (l4 : List Int) : Option ((List (List Int)) × Int) := (spec_l03Code.f k a0_0 l0_1 l1 l2).bind fun t223 => (if t223 = 0 then ((spec_l03Code.f k a0_0 l0_1 l3 l4).bind fun t224 => (spec_LeviOf.j0 k l1 l2 l3 l4 t224 a0_0 l0_1)) else (spec_LeviOf.j0 k l1 l2 l3 l4 t223 a0_0 l0_1))

def spec_LeviOf.T6 : Bool × List (List Nat × List Nat) := (true, [([], []), ([0], [0]), ([1], [1]), ([2], [2]), ([2], [2]), ([4, 2, 2], [2, 4]), ([2], [2]), ([5, 6, 5, 2], [2, 5, 6]), ([2], [2]), ([8, 7, 2], [2, 8]), ([2], [2]), ([9, 10, 9, 2], [2, 9, 10]), ([3, 7, 11, 11, 2], [2, 3, 7, 11]), ([12, 2], [2, 12]), ([2, 13], [2, 13])])
def spec_LeviOf.B6 : List Nat := [0, 1, 3, 7, 7, 23, 7, 119, 7, 503, 7, 2039, 4095, 8191, 16383]
theorem spec_LeviOf.tab6 : rtab .any (opsOf Tryd.f27 6) = spec_LeviOf.T6 := by kernel_rfl
theorem spec_LeviOf.bits6 : waitsOk spec_LeviOf.T6.2 spec_LeviOf.B6 = true := by kernel_rfl
def spec_LeviOf.T14 : Bool × List (List Nat × List Nat) := (true, [([], []), ([], []), ([0, 1], [0, 1]), ([], []), ([], []), ([3, 4, 2], [3, 4]), ([], []), ([], []), ([6, 7, 5], [6, 7]), ([], []), ([], []), ([9, 10, 8], [9, 10]), ([2, 5, 8, 11], [2, 5, 8, 11]), ([12, 11, 0, 1, 2, 3, 4, 5, 6, 7, 8, 9, 10, 11, 12], [12]), ([13, 0, 1, 2, 3, 4, 5, 6, 7, 8, 9, 10, 11, 12, 13], [])])
def spec_LeviOf.B14 : List Nat := [0, 0, 3, 0, 0, 31, 0, 0, 255, 0, 0, 2047, 4095, 8191, 16383]
theorem spec_LeviOf.tab14 : rtab .any (opsOf Tryd.f27 14) = spec_LeviOf.T14 := by kernel_rfl
theorem spec_LeviOf.bits14 : waitsOk spec_LeviOf.T14.2 spec_LeviOf.B14 = true := by kernel_rfl
set_option maxHeartbeats 8000000 in
set_option maxRecDepth 100000 in
theorem spec_LeviOf.calls (k : Nat) (a0_0 : Int) (A0_1 : Option Addr) (c0_1 : Nat) (l0_1 : List Int) (A1 : Option Addr) (c1 : Nat) (l1 : List Int) (A2 : Option Addr) (c2 : Nat) (l2 : List Int) (A3 : Option Addr) (c3 : Nat) (l3 : List Int) (A4 : Option Addr) (c4 : Nat) (l4 : List Int) (r1 : List (List Int)) (r2 : Int) (w : World) (hr0_1 : Kd.C (Kd.int .i64) w A0_1 l0_1.length l0_1) (hc0_1 : l0_1.length ≤ c0_1) (hr1 : Kd.C (Kd.int .i64) w A1 l1.length l1) (hc1 : l1.length ≤ c1) (hr2 : Kd.C (Kd.int .i64) w A2 l2.length l2) (hc2 : l2.length ≤ c2) (hr3 : Kd.C (Kd.int .i64) w A3 l3.length l3) (hc3 : l3.length ≤ c3) (hr4 : Kd.C (Kd.int .i64) w A4 l4.length l4) (hc4 : l4.length ≤ c4) (h : spec_LeviOf.f k a0_0 l0_1 l1 l2 l3 l4 = some (r1, r2)) :
  Calls Tryd.prog 27 #[.agg #[.int .i64 a0_0, .slice A0_1 l0_1.length c0_1], .slice A1 l1.length c1, .slice A2 l2.length c2, .slice A3 l3.length c3, .slice A4 l4.length c4] w fun e w' => ∃ v0_ : Value, e = .returned (.tuple #[v0_, .int .i64 r2]) ∧ Kd.S (Kd.slice 2 (Kd.int .i64)) 22 w' w.heap.size (fun _ => True) v0_ r1 ∧ Below w.heap.size w w' := by
 have hu29 := Tryd.underlying29
 have HR0_1 := zA hr0_1
 have HC0_1 := zA hc0_1
 clear hr0_1 hc0_1
 have HR1 := zA hr1
 have HC1 := zA hc1
 clear hr1 hc1
 have HR2 := zA hr2
 have HC2 := zA hc2
 clear hr2 hc2
 have HR3 := zA hr3
 have HC3 := zA hc3
 clear hr3 hc3
 have HR4 := zA hr4
 have HC4 := zA hc4
 clear hr4 hc4
 have HB := zA (kW w.heap.size w)
 have H := h
 unfold spec_LeviOf.f at H
 clear h
 obtain ⟨t223, A6, H⟩ := zb H
 try dsimp only at H
 have HC7 := zA H
 clear H
 go_enter Tryd.func27, Tryd.ntmps27
 go_upto_if 25 with (first | (refine zBE 5 #[.int .i64 a0_0, .slice A0_1 l0_1.length c0_1] 29 ?_; intro gb222 hg w8 hbox hb; have BK222 := zA (hbox); have GW222 := zA (zBH hg HB.out); have GE222 := zA (zBH hg HB.out); replace HB := zA (kQ (zQ HB.out) hb); clear hb hbox hg; obtain ⟨hcz9_0, hcz9_1, hfz9_0, hfz9_1⟩ := zB3 BK222.out) | (refine zO (some 23) Tryd.func74 #[.agg #[.int .i64 a0_0, .slice A0_1 l0_1.length c0_1], .slice A1 l1.length c1, .slice A2 l2.length c2] ?_; (with_reducible refine (spec_l03Code.calls k a0_0 _ _ l0_1 _ _ l1 _ _ l2 t223 _ ?side1 ?side2 ?side3 ?side4 ?side5 ?side6 A6.out).mono ?_); (case side1 => exact zS (kO HR0_1.out HB.out)); (case side2 => exact HC0_1.out); (case side3 => exact zS (kO HR1.out HB.out)); (case side4 => exact HC1.out); (case side5 => exact zS (kO HR2.out HB.out)); (case side6 => exact HC2.out); rintro e w10 ⟨rfl, hb⟩; refine ⟨_, rfl, ?_⟩; replace BK222 := zA (zB1 BK222.out hb); replace HB := zA (kQ (zT HB.out GE222.out) hb); (try clear hb)))
 (try simp only [Act.put, zL, zM, zN])
 go_cut [12] (fun v12 wc => ∃ (kq : Nat) (x12_6 : Int), v12 = .int .i64 x12_6 ∧ Aside0 (spec_LeviOf.j0 kq l1 l2 l3 l4 x12_6 a0_0 l0_1 = some (r1, r2)) ∧ Aside0 (kq ≤ k) ∧ Aside0 (wc.heap[gb222]? = some (.cells #[.int .i64 a0_0, (.slice A0_1 l0_1.length c0_1)] 29 (0, 0))) ∧ Aside0 (Below w.heap.size w wc))
 case first =>
  have H := HC7.out
  clear HC7
  by_cases c11 : t223 = 0
  ·rw [if_pos c11] at H
   obtain ⟨c11b0, c11b1⟩ := zT1 c11
   clear c11
   (first | rw [c11b0] | (simp only [i64_w, i32_w]; rw [c11b0]) | skip)
   obtain ⟨t224, A12, H⟩ := zb H
   try dsimp only at H
   have H' := zA H
   clear H
   obtain ⟨hcz13_0, hcz13_1, hfz13_0, hfz13_1⟩ := zB3 BK222.out
   go_wp2_with (first | (refine zO (some 29) Tryd.func74 #[.agg #[.int .i64 a0_0, .slice A0_1 l0_1.length c0_1], .slice A3 l3.length c3, .slice A4 l4.length c4] ?_; (with_reducible refine (spec_l03Code.calls k a0_0 _ _ l0_1 _ _ l3 _ _ l4 t224 _ ?side1 ?side2 ?side3 ?side4 ?side5 ?side6 A12.out).mono ?_); (case side1 => exact zS (kO HR0_1.out HB.out)); (case side2 => exact HC0_1.out); (case side3 => exact zS (kO HR3.out HB.out)); (case side4 => exact HC3.out); (case side5 => exact zS (kO HR4.out HB.out)); (case side6 => exact HC4.out); rintro e w14 ⟨rfl, hb⟩; refine ⟨_, rfl, ?_⟩; replace BK222 := zA (zB1 BK222.out hb); replace HB := zA (kQ (zT HB.out GE222.out) hb); (try clear hb)))
   go_meet
   case rel => exact ⟨_, (t224), zs, H', ⟨by first | omega | exact Nat.le_refl _⟩, ⟨zR BK222.out⟩, ⟨zT HB.out GE222.out⟩⟩
  rw [if_neg c11] at H
  obtain ⟨c11b0, c11b1⟩ := zT2 c11
  (first | rw [c11b0] | (simp only [i64_w, i32_w]; rw [c11b0]) | skip)
  have H' := zA H
  clear H
  go_wp2
  go_meet
  case rel => exact ⟨_, (t223), zs, H', ⟨by first | omega | exact Nat.le_refl _⟩, ⟨zR BK222.out⟩, ⟨zT HB.out GE222.out⟩⟩
 case rest =>
  clear HC7
  try clear c1
  try clear c2
  try clear c3
  try clear c4
  try clear c7
  try clear c11
  try clear hcz13_0
  try clear hcz13_1
  try clear hcz9_0
  try clear hcz9_1
  try clear hfz13_0
  try clear hfz13_1
  try clear hfz9_0
  try clear hfz9_1
  obtain ⟨kq, x12_6, rfl, HA, HJ6, BK222, HB⟩ := hcut
  cases kq with
  | zero => exact absurd HA.out (by simp [spec_LeviOf.j0])
  | succ kj6 =>
   have H := HA.out
   clear HA
   simp only [spec_LeviOf.j0] at H
   have HC15 := zA H
   clear H
   go_upto_region 4 with (fail)
   go_cut [47] (fun v47 wc => ∃ (kq : Nat) (x47_14 : Bool), v47 = .bool x47_14 ∧ Aside0 (spec_LeviOf.j1 kq l1 l2 l3 l4 x12_6 x47_14 a0_0 l0_1 = some (r1, r2)) ∧ Aside0 (kq ≤ kj6) ∧ Aside0 (wc.heap[gb222]? = some (.cells #[.int .i64 a0_0, (.slice A0_1 l0_1.length c0_1)] 29 (0, 0))) ∧ Aside0 (Below w.heap.size w wc))
   case first =>
    have H := HC15.out
    clear HC15
    by_cases c16 : x12_6 = 0
    ·rw [if_pos c16] at H
     obtain ⟨c16b0, c16b1⟩ := zT1 c16
     clear c16
     (first | rw [c16b0] | (simp only [i64_w, i32_w]; rw [c16b0]) | skip)
     by_cases c17 : (wrap64 ((l1.length : Int) + (l2.length : Int))) > 24
     ·rw [if_pos c17] at H
      have c17b0 : decide (24 < (wrap64 ((l1.length : Int) + (l2.length : Int)))) = true := decide_eq_true c17
      clear c17
      have H' := zA H
      clear H
      go_wp2
      go_meet
      case rel => exact ⟨_, (true), zs, H', ⟨by have := HJ6.out; first | omega | exact Nat.le_refl _⟩, ⟨zR BK222.out⟩, ⟨zT HB.out GE222.out⟩⟩
     rw [if_neg c17] at H
     have c17b0 : decide (24 < (wrap64 ((l1.length : Int) + (l2.length : Int)))) = false := decide_eq_false c17
     clear c17
     have H' := zA H
     clear H
     go_wp2
     go_meet
     case rel => exact ⟨_, (decide ((wrap64 ((l3.length : Int) + (l4.length : Int))) > 24)), zs, H', ⟨by have := HJ6.out; first | omega | exact Nat.le_refl _⟩, ⟨zR BK222.out⟩, ⟨zT HB.out GE222.out⟩⟩
    rw [if_neg c16] at H
    obtain ⟨c16b0, c16b1⟩ := zT2 c16
    (first | rw [c16b0] | (simp only [i64_w, i32_w]; rw [c16b0]) | skip)
    have H' := zA H
    clear H
    go_wp2
    go_meet
    case rel => exact ⟨_, (false), zs, H', ⟨by have := HJ6.out; first | omega | exact Nat.le_refl _⟩, ⟨zR BK222.out⟩, ⟨zT HB.out GE222.out⟩⟩
   case rest =>
    clear HC15
    try clear c1
    try clear c2
    try clear c3
    try clear c4
    try clear c7
    try clear c11
    try clear c16
    try clear c17
    try clear hcz13_0
    try clear hcz13_1
    try clear hcz9_0
    try clear hcz9_1
    try clear hfz13_0
    try clear hfz13_1
    try clear hfz9_0
    try clear hfz9_1
    obtain ⟨kq, x47_14, rfl, HA, HJ14, BK222, HB⟩ := hcut
    cases kq with
    | zero => exact absurd HA.out (by simp [spec_LeviOf.j1])
    | succ kj14 =>
     have H := HA.out
     clear HA
     simp only [spec_LeviOf.j1] at H
     have HC18 := zA H
     clear H
     go_upto_if 47 with (fail)
     go_cut [12] (fun v12 wc => ∃ (kq : Nat) (x12_17 : Int), v12 = .int .i64 x12_17 ∧ Aside0 (spec_LeviOf.j2 kq l1 l2 l3 l4 x12_17 a0_0 l0_1 = some (r1, r2)) ∧ Aside0 (kq ≤ kj14) ∧ Aside0 (wc.heap[gb222]? = some (.cells #[.int .i64 a0_0, (.slice A0_1 l0_1.length c0_1)] 29 (0, 0))) ∧ Aside0 (Below w.heap.size w wc))
     case first =>
      have H := HC18.out
      clear HC18
      by_cases c19 : x47_14 = true
      ·subst c19
       rw [if_pos rfl] at H
       have H' := zA H
       clear H
       go_wp2
       go_meet
       case rel => exact ⟨_, (3), zs, H', ⟨by have := HJ6.out; have := HJ14.out; first | omega | exact Nat.le_refl _⟩, ⟨zR BK222.out⟩, ⟨zT HB.out GE222.out⟩⟩
      replace c19 := Bool.eq_false_iff.mpr c19
      subst c19
      rw [if_neg (show ¬ (false = true) by decide)] at H
      have H' := zA H
      clear H
      go_wp2
      go_meet
      case rel => exact ⟨_, (x12_6), zs, H', ⟨by have := HJ6.out; have := HJ14.out; first | omega | exact Nat.le_refl _⟩, ⟨zR BK222.out⟩, ⟨zT HB.out GE222.out⟩⟩
     case rest =>
      clear HC18
      try clear c1
      try clear c2
      try clear c3
      try clear c4
      try clear c7
      try clear c11
      try clear c16
      try clear c17
      try clear c19
      try clear hcz13_0
      try clear hcz13_1
      try clear hcz9_0
      try clear hcz9_1
      try clear hfz13_0
      try clear hfz13_1
      try clear hfz9_0
      try clear hfz9_1
      obtain ⟨kq, x12_17, rfl, HA, HJ17, BK222, HB⟩ := hcut
      cases kq with
      | zero => exact absurd HA.out (by simp [spec_LeviOf.j2])
      | succ kj17 =>
       have H := HA.out
       clear HA
       simp only [spec_LeviOf.j2] at H
       have HC20 := zA H
       clear H
       go_upto_region 6 with (fail)
       go_cut [62] (fun v62 wc => ∃ (kq : Nat) (x62_19 : Bool), v62 = .bool x62_19 ∧ Aside0 (spec_LeviOf.j3 kq l1 l2 l3 x12_17 x62_19 a0_0 l0_1 = some (r1, r2)) ∧ Aside0 (kq ≤ kj17) ∧ Aside0 (wc.heap[gb222]? = some (.cells #[.int .i64 a0_0, (.slice A0_1 l0_1.length c0_1)] 29 (0, 0))) ∧ Aside0 (Below w.heap.size w wc))
       case first =>
        have H := HC20.out
        clear HC20
        by_cases c21 : x12_17 = 0
        ·rw [if_pos c21] at H
         obtain ⟨c21b0, c21b1⟩ := zT1 c21
         clear c21
         (first | rw [c21b0] | (simp only [i64_w, i32_w]; rw [c21b0]) | skip)
         obtain ⟨t225, A22, H⟩ := zb H
         try dsimp only at H
         by_cases c23 : t225.length + l2.length < 17592186044416
         ·rw [if_pos c23] at H
          have LMc23 := zA c23
          clear c23
          obtain ⟨y228, hy228⟩ : ∃ y_ : List Int, y_ = (t225 ++ l2) := ⟨_, rfl⟩
          replace H : ((spec_l01Own.f l3).bind fun t231 => (if t231.length + l4.length < 17592186044416 then ((spec_l03Same.f kj17 a0_0 l0_1 y228 (t231 ++ l4)).bind fun t237 => (spec_LeviOf.j3 kj17 l1 l2 l3 x12_17 (!t237) a0_0 l0_1)) else (none))) = some (r1, r2) := zy hy228 H
          have Ny228 := zA hy228
          clear hy228
          obtain ⟨t231, A24, H⟩ := zb H
          try dsimp only at H
          by_cases c25 : t231.length + l4.length < 17592186044416
          ·rw [if_pos c25] at H
           have LMc25 := zA c25
           clear c25
           obtain ⟨y234, hy234⟩ : ∃ y_ : List Int, y_ = (t231 ++ l4) := ⟨_, rfl⟩
           replace H : ((spec_l03Same.f kj17 a0_0 l0_1 y228 y234).bind fun t237 => (spec_LeviOf.j3 kj17 l1 l2 l3 x12_17 (!t237) a0_0 l0_1)) = some (r1, r2) := zy hy234 H
           have Ny234 := zA hy234
           clear hy234
           obtain ⟨t237, A26, H⟩ := zb H
           try dsimp only at H
           have H' := zA H
           clear H
           try go_wp2
           replace BK222 := zA (zK BK222.out)
           replace HB := zA (zD HB.out)
           refine start_ (n := 15) (S := fun w' => w'.cell? ⟨gb222, 0, none⟩ = some (.int .i64 a0_0) ∧ w'.cell? ⟨gb222, 1, none⟩ = some (.slice A0_1 l0_1.length c0_1)) (ds := []) #[false, false, false, false, false, false, false, false, false, false, false, false, false, false, false] (by kernel_rfl) rfl rfl ⟨(kV BK222.out 0).trans rfl, (kV BK222.out 1).trans rfl⟩ (fun hHeld => ?_); refine with_tabW spec_LeviOf.tab6 spec_LeviOf.bits6 (fun HT_ HW_ => ?_)
           generalize wc.drew = w27 at BK222 HB hHeld ⊢
           refine zp 0 (some 48) #[true, false, false, false, false, false, false, false, false, false, false, false, false, false, false] HT_.out ?_
           refine zp 1 (some 49) #[true, true, false, false, false, false, false, false, false, false, false, false, false, false, false] HT_.out ?_
           refine zp 2 (some 50) #[true, true, true, false, false, false, false, false, false, false, false, false, false, false, false] HT_.out ?_
           refine zp 4 (some 52) #[true, true, true, false, true, false, false, false, false, false, false, false, false, false, false] HT_.out ?_
           refine zp 6 (some 54) #[true, true, true, false, true, false, true, false, false, false, false, false, false, false, false] HT_.out ?_
           refine zp 8 (some 56) #[true, true, true, false, true, false, true, false, true, false, false, false, false, false, false] HT_.out ?_
           refine zp 10 (some 58) #[true, true, true, false, true, false, true, false, true, false, true, false, false, false, false] HT_.out ?_
           refine zc 3 (some 51) #[true, true, true, true, true, false, true, false, true, false, true, false, false, false, false] HT_.out HW_.out hHeld ?_
           refine one_ (i := 5) (N := some 53) #[true, true, true, true, true, true, true, false, true, false, true, false, false, false, false] rfl rfl (one_of HT_.out (by kernel_rfl)) (by decide) (fun K hK => ?_)
           refine goes_ Tryd.func80 (by kernel_rfl) rfl #[.slice A1 l1.length c1] (by rfl) rfl rfl zg ?_
           with_reducible refine (spec_l01Own.calls _ _ l1 t225 _ ?side1 ?side2 A22.out).mono ?_
           (case side1 => exact zS (kO HR1.out HB.out))
           (case side2 => exact HC1.out)
           rintro e w28 ⟨v226, rfl, ho0, hb⟩
           refine ⟨_, rfl, ?_⟩
           have HO227 := zA (kI ho0 (kP (zT HB.out GE222.out)))
           replace BK222 := zA (zB1 BK222.out hb)
           replace HB := zA (kQ (zT HB.out GE222.out) hb)
           (try clear hb)
           (try clear hb2)
           (try clear hk)
           (try clear hi)
           (try clear hgw)
           (try clear ho0)
           refine hK.out _ _ ⟨(kV BK222.out 0).trans rfl, (kV BK222.out 1).trans rfl⟩ (fun hHeld => ?_)
           clear hK K
           refine norm_ (a' := ?_) ?_ ?_
           rotate_left
           ·show Act.put _ (some 53) _ = _
            simp only [Act.put, zL, zM, zN, i64_w, i32_w]
            rfl
           refine one_ (i := 7) (N := some 55) #[true, true, true, true, true, true, true, true, true, false, true, false, false, false, false] rfl rfl (one_of HT_.out (by kernel_rfl)) (by decide) (fun K hK => ?_)
           refine Kd.R_append_rows_step (Kd.int .i64) (w0 := w) w.heap.size (by rfl) (.tmp 53) (.tmp 54) 22 2 (.int .i64 0) 8 rfl Tryd.underlying22 info2 rfl (by decide) (by omega) v226 t225 l2 _ _ _ (fun _ => True) (fun _ => False) rfl rfl ?aO ?aR (fun _ _ h => h) (fun _ h => h.elim) ?aF ?aB ?aS ?aL ?_
           (case aR => exact zS (kO HR2.out HB.out))
           (case aB => exact (zT HB.out GE222.out))
           (case aF => exact (fun _ _ => trivial))
           (case aO => exact (zP HO227.out))
           (case aS => exact (kP (zT HB.out GE222.out)))
           (case aL => have := LMc23.out; omega)
           intro v229 w29 ho hb hg hat
           rw [← Ny228.out] at ho
           replace BK222 := zA (blk_grown (g := gb222) (o := .cells #[.int .i64 a0_0, .slice A0_1 l0_1.length c0_1] 29 (0, 0)) (zR BK222.out) hg (Kd.R_ne HO227.out BK222.out (by decide)))
           replace HB := zA (hb)
           have HO230 := zA (ho)
           clear HO227 ho hb hg hat
           refine hK.out _ _ ⟨(kV BK222.out 0).trans rfl, (kV BK222.out 1).trans rfl⟩ (fun hHeld => ?_)
           clear hK K
           refine norm_ (a' := ?_) ?_ ?_
           rotate_left
           ·show Act.put _ (some 55) _ = _
            simp only [Act.put, zL, zM, zN, i64_w, i32_w]
            rfl
           refine one_ (i := 9) (N := some 57) #[true, true, true, true, true, true, true, true, true, true, true, false, false, false, false] rfl rfl (one_of HT_.out (by kernel_rfl)) (by decide) (fun K hK => ?_)
           refine goes_ Tryd.func80 (by kernel_rfl) rfl #[.slice A3 l3.length c3] (by rfl) rfl rfl zg ?_
           with_reducible refine (spec_l01Own.calls _ _ l3 t231 _ ?side1 ?side2 A24.out).mono ?_
           (case side1 => exact zS (kO HR3.out HB.out))
           (case side2 => exact HC3.out)
           rintro e w30 ⟨v232, rfl, ho0, hb⟩
           refine ⟨_, rfl, ?_⟩
           have HO233 := zA (kI (kF ho0 (kH (zP HO230.out))) (kP (zT HB.out GE222.out)))
           replace HO230 := zA (kE (zP HO230.out) (kC ho0) hb)
           replace BK222 := zA (zB1 BK222.out hb)
           replace HB := zA (kQ (zT HB.out GE222.out) hb)
           (try clear hb)
           (try clear hb2)
           (try clear hk)
           (try clear hi)
           (try clear hgw)
           (try clear ho0)
           refine hK.out _ _ ⟨(kV BK222.out 0).trans rfl, (kV BK222.out 1).trans rfl⟩ (fun hHeld => ?_)
           clear hK K
           refine norm_ (a' := ?_) ?_ ?_
           rotate_left
           ·show Act.put _ (some 57) _ = _
            simp only [Act.put, zL, zM, zN, i64_w, i32_w]
            rfl
           refine one_ (i := 11) (N := some 59) #[true, true, true, true, true, true, true, true, true, true, true, true, false, false, false] rfl rfl (one_of HT_.out (by kernel_rfl)) (by decide) (fun K hK => ?_)
           refine Kd.R_append_rows_step (Kd.int .i64) (w0 := w) w.heap.size (by rfl) (.tmp 57) (.tmp 58) 22 2 (.int .i64 0) 8 rfl Tryd.underlying22 info2 rfl (by decide) (by omega) v232 t231 l4 _ _ _ (fun k_ => some k_ ≠ (v229 : Value).ownBlock) (fun _ => False) rfl rfl ?aO ?aR (fun _ _ h => h) (fun _ h => h.elim) ?aF ?aB ?aS ?aL ?_
           (case aR => exact zS (kO HR4.out HB.out))
           (case aB => exact (zT HB.out GE222.out))
           (case aF => exact (fun k_ hk => jF (kH (zP HO230.out)) k_ hk))
           (case aO => exact (by (with_reducible repeat (first | apply zF | apply zG | apply zH)); exact kA HO233.out (fun _ hk => hk.2)))
           (case aS => exact (kP (zT HB.out GE222.out)))
           (case aL => have := LMc25.out; omega)
           intro v235 w31 ho hb hg hat
           rw [← Ny234.out] at ho
           replace BK222 := zA (blk_grown (g := gb222) (o := .cells #[.int .i64 a0_0, .slice A0_1 l0_1.length c0_1] 29 (0, 0)) (zR BK222.out) hg (Kd.R_ne HO233.out BK222.out (by decide)))
           replace HO230 := zA (Kd.R_after (ok := (fun _ => True)) (zP HO230.out) hg hat)
           replace HB := zA (hb)
           have HO236 := zA (ho)
           clear HO233 ho hb hg hat
           obtain ⟨Ao32, co32, eo32⟩ := kM HO230.out
           (first | subst eo32 | (injection eo32 with f1_ f2_ f3_; have f4_ := f1_.symm; have f5_ := f3_.symm; clear f1_ f2_ f3_; subst f4_; subst f5_))
           obtain ⟨Ao33, co33, eo33⟩ := kM HO236.out
           (first | subst eo33 | (injection eo33 with f1_ f2_ f3_; have f4_ := f1_.symm; have f5_ := f3_.symm; clear f1_ f2_ f3_; subst f4_; subst f5_))
           refine hK.out _ _ ⟨(kV BK222.out 0).trans rfl, (kV BK222.out 1).trans rfl⟩ (fun hHeld => ?_)
           clear hK K
           refine norm_ (a' := ?_) ?_ ?_
           rotate_left
           ·show Act.put _ (some 59) _ = _
            simp only [Act.put, zL, zM, zN, i64_w, i32_w]
            rfl
           refine one_ (i := 12) (N := some 60) #[true, true, true, true, true, true, true, true, true, true, true, true, true, false, false] rfl rfl (one_of HT_.out (by kernel_rfl)) (by decide) (fun K hK => ?_)
           refine goes_ Tryd.func79 (by kernel_rfl) rfl #[.agg #[.int .i64 a0_0, .slice A0_1 l0_1.length c0_1], .slice Ao32 y228.length co32, .slice Ao33 y234.length co33] (by rfl) rfl rfl zg ?_
           with_reducible refine (spec_l03Same.calls kj17 a0_0 _ _ l0_1 _ _ y228 _ _ y234 t237 _ ?side1 ?side2 ?side3 ?side4 ?side5 ?side6 A26.out).mono ?_
           (case side1 => exact zS (kO HR0_1.out HB.out))
           (case side2 => exact HC0_1.out)
           (case side3 => exact zS (kB HO230.out).2.2)
           (case side4 => exact (kB HO230.out).2.1)
           (case side5 => exact zS (kB HO236.out).2.2)
           (case side6 => exact (kB HO236.out).2.1)
           rintro e w34 ⟨rfl, hb⟩
           refine ⟨_, rfl, ?_⟩
           replace HO230 := zA (kL (zP HO230.out) hb)
           replace HO236 := zA (kL (zP HO236.out) hb)
           replace BK222 := zA (zB1 BK222.out hb)
           replace HB := zA (kQ (zT HB.out GE222.out) hb)
           (try clear hb)
           (try clear hb2)
           (try clear hk)
           (try clear hi)
           (try clear hgw)
           refine hK.out _ _ ⟨(kV BK222.out 0).trans rfl, (kV BK222.out 1).trans rfl⟩ (fun hHeld => ?_)
           clear hK K
           refine norm_ (a' := ?_) ?_ ?_
           rotate_left
           ·show Act.put _ (some 60) _ = _
            simp only [Act.put, zL, zM, zN, i64_w, i32_w]
            rfl
           refine zp 13 (some 61) #[true, true, true, true, true, true, true, true, true, true, true, true, true, true, false] HT_.out ?_
           refine zp 14 (some 62) #[true, true, true, true, true, true, true, true, true, true, true, true, true, true, true] HT_.out ?_
           refine done_ (done_of HT_.out (by kernel_rfl)) ?_
           try go_wp2
           go_meet
           case rel => exact ⟨_, (!t237), zs, H', ⟨by have := HJ6.out; have := HJ14.out; have := HJ17.out; first | omega | exact Nat.le_refl _⟩, ⟨zR BK222.out⟩, ⟨zT HB.out GE222.out⟩⟩
          rw [if_neg c25] at H
          exact absurd H (by simp)
         rw [if_neg c23] at H
         exact absurd H (by simp)
        rw [if_neg c21] at H
        obtain ⟨c21b0, c21b1⟩ := zT2 c21
        (first | rw [c21b0] | (simp only [i64_w, i32_w]; rw [c21b0]) | skip)
        have H' := zA H
        clear H
        try go_wp2
        replace BK222 := zA (zK BK222.out)
        replace HB := zA (zD HB.out)
        refine start_ (n := 15) (S := fun w' => True) (ds := []) #[false, false, false, false, false, false, false, false, false, false, false, false, false, false, false] (by kernel_rfl) rfl rfl trivial (fun hHeld => ?_); refine with_tabW spec_LeviOf.tab6 spec_LeviOf.bits6 (fun HT_ HW_ => ?_)
        generalize wc.drew = w35 at BK222 HB hHeld ⊢
        refine zp 0 (some 48) #[true, false, false, false, false, false, false, false, false, false, false, false, false, false, false] HT_.out ?_
        refine zp 1 (some 49) #[true, true, false, false, false, false, false, false, false, false, false, false, false, false, false] HT_.out ?_
        refine zp 2 (some 50) #[true, true, true, false, false, false, false, false, false, false, false, false, false, false, false] HT_.out ?_
        refine zu 3 (some 51) #[true, true, true, true, false, false, false, false, false, false, false, false, false, false, false] HT_.out ?_
        refine zu 4 (some 52) #[true, true, true, true, true, false, false, false, false, false, false, false, false, false, false] HT_.out ?_
        refine zu 5 (some 53) #[true, true, true, true, true, true, false, false, false, false, false, false, false, false, false] HT_.out ?_
        refine zu 6 (some 54) #[true, true, true, true, true, true, true, false, false, false, false, false, false, false, false] HT_.out ?_
        refine zu 7 (some 55) #[true, true, true, true, true, true, true, true, false, false, false, false, false, false, false] HT_.out ?_
        refine zu 8 (some 56) #[true, true, true, true, true, true, true, true, true, false, false, false, false, false, false] HT_.out ?_
        refine zu 9 (some 57) #[true, true, true, true, true, true, true, true, true, true, false, false, false, false, false] HT_.out ?_
        refine zu 10 (some 58) #[true, true, true, true, true, true, true, true, true, true, true, false, false, false, false] HT_.out ?_
        refine zu 11 (some 59) #[true, true, true, true, true, true, true, true, true, true, true, true, false, false, false] HT_.out ?_
        refine zu 12 (some 60) #[true, true, true, true, true, true, true, true, true, true, true, true, true, false, false] HT_.out ?_
        refine zu 13 (some 61) #[true, true, true, true, true, true, true, true, true, true, true, true, true, true, false] HT_.out ?_
        refine zp 14 (some 62) #[true, true, true, true, true, true, true, true, true, true, true, true, true, true, true] HT_.out ?_
        refine done_ (done_of HT_.out (by kernel_rfl)) ?_
        try go_wp2
        go_meet
        case rel => exact ⟨_, (false), zs, H', ⟨by have := HJ6.out; have := HJ14.out; have := HJ17.out; first | omega | exact Nat.le_refl _⟩, ⟨zR BK222.out⟩, ⟨zT HB.out GE222.out⟩⟩
       case rest =>
        clear HC20
        try clear c1
        try clear c2
        try clear c3
        try clear c4
        try clear c7
        try clear c8
        try clear c11
        try clear c16
        try clear c17
        try clear c19
        try clear c21
        try clear c23
        try clear c25
        try clear c27
        try clear hcz13_0
        try clear hcz13_1
        try clear hcz9_0
        try clear hcz9_1
        try clear hfz13_0
        try clear hfz13_1
        try clear hfz9_0
        try clear hfz9_1
        obtain ⟨kq, x62_19, rfl, HA, HJ19, BK222, HB⟩ := hcut
        cases kq with
        | zero => exact absurd HA.out (by simp [spec_LeviOf.j3])
        | succ kj19 =>
         have H := HA.out
         clear HA
         simp only [spec_LeviOf.j3] at H
         have HC36 := zA H
         clear H
         go_upto_if 62 with (fail)
         go_cut [12] (fun v12 wc => ∃ (kq : Nat) (x12_35 : Int), v12 = .int .i64 x12_35 ∧ Aside0 (spec_LeviOf.j4 kq l1 l2 l3 x12_35 a0_0 l0_1 = some (r1, r2)) ∧ Aside0 (kq ≤ kj19) ∧ Aside0 (wc.heap[gb222]? = some (.cells #[.int .i64 a0_0, (.slice A0_1 l0_1.length c0_1)] 29 (0, 0))) ∧ Aside0 (Below w.heap.size w wc))
         case first =>
          have H := HC36.out
          clear HC36
          by_cases c37 : x62_19 = true
          ·subst c37
           rw [if_pos rfl] at H
           have H' := zA H
           clear H
           go_wp2
           go_meet
           case rel => exact ⟨_, (5), zs, H', ⟨by have := HJ6.out; have := HJ14.out; have := HJ17.out; have := HJ19.out; first | omega | exact Nat.le_refl _⟩, ⟨zR BK222.out⟩, ⟨zT HB.out GE222.out⟩⟩
          replace c37 := Bool.eq_false_iff.mpr c37
          subst c37
          rw [if_neg (show ¬ (false = true) by decide)] at H
          have H' := zA H
          clear H
          go_wp2
          go_meet
          case rel => exact ⟨_, (x12_17), zs, H', ⟨by have := HJ6.out; have := HJ14.out; have := HJ17.out; have := HJ19.out; first | omega | exact Nat.le_refl _⟩, ⟨zR BK222.out⟩, ⟨zT HB.out GE222.out⟩⟩
         case rest =>
          clear HC36
          try clear c1
          try clear c2
          try clear c3
          try clear c4
          try clear c7
          try clear c8
          try clear c11
          try clear c16
          try clear c17
          try clear c19
          try clear c21
          try clear c23
          try clear c25
          try clear c27
          try clear c37
          try clear hcz13_0
          try clear hcz13_1
          try clear hcz9_0
          try clear hcz9_1
          try clear hfz13_0
          try clear hfz13_1
          try clear hfz9_0
          try clear hfz9_1
          obtain ⟨kq, x12_35, rfl, HA, HJ35, BK222, HB⟩ := hcut
          cases kq with
          | zero => exact absurd HA.out (by simp [spec_LeviOf.j4])
          | succ kj35 =>
           have H := HA.out
           clear HA
           simp only [spec_LeviOf.j4] at H
           by_cases c38 : x12_35 = 0
           ·rw [if_pos c38] at H
            obtain ⟨c38b0, c38b1⟩ := zT1 c38
            clear c38
            obtain ⟨t238, A39, H⟩ := zb H
            try dsimp only at H
            obtain ⟨⟨t241, t244⟩, A40, H⟩ := zb H
            try dsimp only at H
            obtain ⟨⟨t245, t248⟩, A41, H⟩ := zb H
            try dsimp only at H
            obtain ⟨⟨t249, t252⟩, A42, H⟩ := zb H
            try dsimp only at H
            obtain ⟨t253, A43, H⟩ := zb H
            try dsimp only at H
            obtain ⟨t256, A44, H⟩ := zb H
            try dsimp only at H
            obtain ⟨t259, A45, H⟩ := zb H
            try dsimp only at H
            obtain ⟨t262, A46, H⟩ := zb H
            try dsimp only at H
            obtain ⟨y265, hy265⟩ : ∃ y_ : List (List Int), y_ = (([t253, t256, t259, t262] : List (List Int))) := ⟨_, rfl⟩
            replace H : (some (y265, 0)) = some (r1, r2) := zy hy265 H
            have Ny265 := zA hy265
            clear hy265
            simp only [Option.some.injEq, Prod.mk.injEq] at H
            obtain ⟨rfl, rfl⟩ := H
            obtain ⟨hcz47_0, hcz47_1, hfz47_0, hfz47_1⟩ := zB3 BK222.out
            try go_wp2_with (first | (refine zO (some 69) Tryd.func81 #[.agg #[.int .i64 a0_0, .slice A0_1 l0_1.length c0_1], .slice A1 l1.length c1, .slice A3 l3.length c3] ?_; (with_reducible refine (spec_l05Meet.calls kj35 a0_0 _ _ l0_1 _ _ l1 _ _ l3 t238 _ ?side1 ?side2 ?side3 ?side4 ?side5 ?side6 A39.out).mono ?_); (case side1 => exact zS (kO HR0_1.out HB.out)); (case side2 => exact HC0_1.out); (case side3 => exact zS (kO HR1.out HB.out)); (case side4 => exact HC1.out); (case side5 => exact zS (kO HR3.out HB.out)); (case side6 => exact HC3.out); rintro e w48 ⟨v239, rfl, ho0, hb⟩; refine ⟨_, rfl, ?_⟩; have HO240 := zA (kI ho0 (kP (zT HB.out GE222.out))); replace BK222 := zA (zB1 BK222.out hb); replace HB := zA (kQ (zT HB.out GE222.out) hb); (try clear hb); (try clear ho0); obtain ⟨hcz49_0, hcz49_1, hfz49_0, hfz49_1⟩ := zB3 BK222.out; obtain ⟨Ao50, co50, eo50⟩ := kM HO240.out; subst eo50) | (refine zO (some 74) Tryd.func82 #[.agg #[.int .i64 a0_0, .slice A0_1 l0_1.length c0_1], .slice Ao50 t238.length co50, .slice A1 l1.length c1] ?_; (with_reducible refine (spec_l05Cut.calls kj35 a0_0 _ _ l0_1 _ _ t238 _ _ l1 t241 t244 _ ?side1 ?side2 ?side3 ?side4 ?side5 ?side6 A40.out).mono ?_); (case side1 => exact zS (kO HR0_1.out HB.out)); (case side2 => exact HC0_1.out); (case side3 => exact zS (kB HO240.out).2.2); (case side4 => exact (kB HO240.out).2.1); (case side5 => exact zS (kO HR1.out HB.out)); (case side6 => exact HC1.out); rintro e w51 ⟨v242, rfl, ho0, hb⟩; refine ⟨_, rfl, ?_⟩; have HO243 := zA (kI (kF ho0 (kH (zP HO240.out))) (kP (zT HB.out GE222.out))); replace HO240 := zA (kE (zP HO240.out) (kC ho0) hb); replace BK222 := zA (zB1 BK222.out hb); replace HB := zA (kQ (zT HB.out GE222.out) hb); (try clear hb); (try clear ho0); obtain ⟨hcz52_0, hcz52_1, hfz52_0, hfz52_1⟩ := zB3 BK222.out) | (refine zO (some 81) Tryd.func82 #[.agg #[.int .i64 a0_0, .slice A0_1 l0_1.length c0_1], .slice Ao50 t238.length co50, .slice A3 l3.length c3] ?_; (with_reducible refine (spec_l05Cut.calls kj35 a0_0 _ _ l0_1 _ _ t238 _ _ l3 t245 t248 _ ?side1 ?side2 ?side3 ?side4 ?side5 ?side6 A41.out).mono ?_); (case side1 => exact zS (kO HR0_1.out HB.out)); (case side2 => exact HC0_1.out); (case side3 => exact zS (kB HO240.out).2.2); (case side4 => exact (kB HO240.out).2.1); (case side5 => exact zS (kO HR3.out HB.out)); (case side6 => exact HC3.out); rintro e w53 ⟨v246, rfl, ho0, hb⟩; refine ⟨_, rfl, ?_⟩; have HO247 := zA (kI (kF (kF ho0 (kH (zP HO240.out))) (kH (zP HO243.out))) (kP (zT HB.out GE222.out))); replace HO240 := zA (kE (zP HO240.out) (kC ho0) hb); replace HO243 := zA (kE (zP HO243.out) (kC ho0) hb); replace BK222 := zA (zB1 BK222.out hb); replace HB := zA (kQ (zT HB.out GE222.out) hb); (try clear hb); (try clear ho0); obtain ⟨hcz54_0, hcz54_1, hfz54_0, hfz54_1⟩ := zB3 BK222.out; obtain ⟨Ao55, co55, eo55⟩ := kM HO247.out; subst eo55) | (refine zO (some 88) Tryd.func82 #[.agg #[.int .i64 a0_0, .slice A0_1 l0_1.length c0_1], .slice Ao55 t245.length co55, .slice A2 l2.length c2] ?_; (with_reducible refine (spec_l05Cut.calls kj35 a0_0 _ _ l0_1 _ _ t245 _ _ l2 t249 t252 _ ?side1 ?side2 ?side3 ?side4 ?side5 ?side6 A42.out).mono ?_); (case side1 => exact zS (kO HR0_1.out HB.out)); (case side2 => exact HC0_1.out); (case side3 => exact zS (kB HO247.out).2.2); (case side4 => exact (kB HO247.out).2.1); (case side5 => exact zS (kO HR2.out HB.out)); (case side6 => exact HC2.out); rintro e w56 ⟨v250, rfl, ho0, hb⟩; refine ⟨_, rfl, ?_⟩; have HO251 := zA (kI (kF (kF (kF ho0 (kH (zP HO240.out))) (kH (zP HO243.out))) (kH (zP HO247.out))) (kP (zT HB.out GE222.out))); replace HO240 := zA (kE (zP HO240.out) (kC ho0) hb); replace HO243 := zA (kE (zP HO243.out) (kC ho0) hb); replace HO247 := zA (kE (zP HO247.out) (kC ho0) hb); replace BK222 := zA (zB1 BK222.out hb); replace HB := zA (kQ (zT HB.out GE222.out) hb); (try clear hb); (try clear ho0)))
            replace HO240 := zA (zH HO240.out)
            replace HO243 := zA (zH HO243.out)
            replace HO247 := zA (zH HO247.out)
            replace HO251 := zA (zH HO251.out)
            replace BK222 := zA (zK BK222.out)
            replace HB := zA (zD HB.out)
            refine start_ (n := 15) (S := fun w' => w'.cell? ⟨gb222, 0, none⟩ = some (.int .i64 a0_0) ∧ w'.cell? ⟨gb222, 1, none⟩ = some (.slice A0_1 l0_1.length c0_1)) (ds := []) #[false, false, false, false, false, false, false, false, false, false, false, false, false, false, false] (by kernel_rfl) rfl rfl ⟨(kV BK222.out 0).trans rfl, (kV BK222.out 1).trans rfl⟩ (fun hHeld => ?_); refine with_tabW spec_LeviOf.tab14 spec_LeviOf.bits14 (fun HT_ HW_ => ?_)
            generalize w56.drew = w57 at HO240 HO243 HO247 HO251 BK222 HB hHeld ⊢
            refine zp 1 (some 92) #[false, true, false, false, false, false, false, false, false, false, false, false, false, false, false] HT_.out ?_
            refine zp 4 (some 95) #[false, true, false, false, true, false, false, false, false, false, false, false, false, false, false] HT_.out ?_
            refine zp 7 (some 98) #[false, true, false, false, true, false, false, true, false, false, false, false, false, false, false] HT_.out ?_
            refine zp 10 (some 101) #[false, true, false, false, true, false, false, true, false, false, true, false, false, false, false] HT_.out ?_
            refine zc 0 (some 91) #[true, true, false, false, true, false, false, true, false, false, true, false, false, false, false] HT_.out HW_.out hHeld ?_
            refine zc 3 (some 94) #[true, true, false, true, true, false, false, true, false, false, true, false, false, false, false] HT_.out HW_.out hHeld ?_
            refine zc 6 (some 97) #[true, true, false, true, true, false, true, true, false, false, true, false, false, false, false] HT_.out HW_.out hHeld ?_
            refine zc 9 (some 100) #[true, true, false, true, true, false, true, true, false, true, true, false, false, false, false] HT_.out HW_.out hHeld ?_
            refine one_ (i := 2) (N := some 93) #[true, true, true, true, true, false, true, true, false, true, true, false, false, false, false] rfl rfl (one_of HT_.out (by kernel_rfl)) (by decide) (fun K hK => ?_)
            refine goes_ Tryd.func83 (by kernel_rfl) rfl #[.agg #[.int .i64 a0_0, .slice A0_1 l0_1.length c0_1], .slice Ao50 t238.length co50] (by rfl) rfl rfl zg ?_
            with_reducible refine (spec_l03Normal.calls kj35 a0_0 _ _ l0_1 _ _ t238 t253 _ ?side1 ?side2 ?side3 ?side4 A43.out).mono ?_
            (case side1 => exact zS (kO HR0_1.out HB.out))
            (case side2 => exact HC0_1.out)
            (case side3 => exact zS (kB HO240.out).2.2)
            (case side4 => exact (kB HO240.out).2.1)
            rintro e w58 ⟨v254, rfl, ho0, hb⟩
            refine ⟨_, rfl, ?_⟩
            have HO255 := zA (kI (kF (kF (kF (kF ho0 (kH (zP HO240.out))) (kH (zP HO243.out))) (kH (zP HO247.out))) (kH (zP HO251.out))) (kP (zT HB.out GE222.out)))
            replace HO240 := zA (kE (zP HO240.out) (kC ho0) hb)
            replace HO243 := zA (kE (zP HO243.out) (kC ho0) hb)
            replace HO247 := zA (kE (zP HO247.out) (kC ho0) hb)
            replace HO251 := zA (kE (zP HO251.out) (kC ho0) hb)
            replace BK222 := zA (zB1 BK222.out hb)
            replace HB := zA (kQ (zT HB.out GE222.out) hb)
            (try clear hb)
            (try clear hb2)
            (try clear hk)
            (try clear hi)
            (try clear hgw)
            (try clear ho0)
            obtain ⟨Ao59, co59, eo59⟩ := kM HO243.out
            (first | subst eo59 | (injection eo59 with f1_ f2_ f3_; have f4_ := f1_.symm; have f5_ := f3_.symm; clear f1_ f2_ f3_; subst f4_; subst f5_))
            refine hK.out _ _ ⟨(kV BK222.out 0).trans rfl, (kV BK222.out 1).trans rfl⟩ (fun hHeld => ?_)
            clear hK K
            refine norm_ (a' := ?_) ?_ ?_
            rotate_left
            ·show Act.put _ (some 93) _ = _
             simp only [Act.put, zL, zM, zN, i64_w, i32_w]
             rfl
            refine one_ (i := 5) (N := some 96) #[true, true, true, true, true, true, true, true, false, true, true, false, false, false, false] rfl rfl (one_of HT_.out (by kernel_rfl)) (by decide) (fun K hK => ?_)
            refine goes_ Tryd.func83 (by kernel_rfl) rfl #[.agg #[.int .i64 a0_0, .slice A0_1 l0_1.length c0_1], .slice Ao59 t241.length co59] (by rfl) rfl rfl zg ?_
            with_reducible refine (spec_l03Normal.calls kj35 a0_0 _ _ l0_1 _ _ t241 t256 _ ?side1 ?side2 ?side3 ?side4 A44.out).mono ?_
            (case side1 => exact zS (kO HR0_1.out HB.out))
            (case side2 => exact HC0_1.out)
            (case side3 => exact zS (kB HO243.out).2.2)
            (case side4 => exact (kB HO243.out).2.1)
            rintro e w60 ⟨v257, rfl, ho0, hb⟩
            refine ⟨_, rfl, ?_⟩
            have HO258 := zA (kI (kF (kF (kF (kF (kF ho0 (kH (zP HO240.out))) (kH (zP HO243.out))) (kH (zP HO247.out))) (kH (zP HO251.out))) (kH (zP HO255.out))) (kP (zT HB.out GE222.out)))
            replace HO240 := zA (kE (zP HO240.out) (kC ho0) hb)
            replace HO243 := zA (kE (zP HO243.out) (kC ho0) hb)
            replace HO247 := zA (kE (zP HO247.out) (kC ho0) hb)
            replace HO251 := zA (kE (zP HO251.out) (kC ho0) hb)
            replace HO255 := zA (kE (zP HO255.out) (kC ho0) hb)
            replace BK222 := zA (zB1 BK222.out hb)
            replace HB := zA (kQ (zT HB.out GE222.out) hb)
            (try clear hb)
            (try clear hb2)
            (try clear hk)
            (try clear hi)
            (try clear hgw)
            (try clear ho0)
            refine hK.out _ _ ⟨(kV BK222.out 0).trans rfl, (kV BK222.out 1).trans rfl⟩ (fun hHeld => ?_)
            clear hK K
            refine norm_ (a' := ?_) ?_ ?_
            rotate_left
            ·show Act.put _ (some 96) _ = _
             simp only [Act.put, zL, zM, zN, i64_w, i32_w]
             rfl
            refine one_ (i := 8) (N := some 99) #[true, true, true, true, true, true, true, true, true, true, true, false, false, false, false] rfl rfl (one_of HT_.out (by kernel_rfl)) (by decide) (fun K hK => ?_)
            refine goes_ Tryd.func83 (by kernel_rfl) rfl #[.agg #[.int .i64 a0_0, .slice A0_1 l0_1.length c0_1], .slice Ao55 t245.length co55] (by rfl) rfl rfl zg ?_
            with_reducible refine (spec_l03Normal.calls kj35 a0_0 _ _ l0_1 _ _ t245 t259 _ ?side1 ?side2 ?side3 ?side4 A45.out).mono ?_
            (case side1 => exact zS (kO HR0_1.out HB.out))
            (case side2 => exact HC0_1.out)
            (case side3 => exact zS (kB HO247.out).2.2)
            (case side4 => exact (kB HO247.out).2.1)
            rintro e w61 ⟨v260, rfl, ho0, hb⟩
            refine ⟨_, rfl, ?_⟩
            have HO261 := zA (kI (kF (kF (kF (kF (kF (kF ho0 (kH (zP HO240.out))) (kH (zP HO243.out))) (kH (zP HO247.out))) (kH (zP HO251.out))) (kH (zP HO255.out))) (kH (zP HO258.out))) (kP (zT HB.out GE222.out)))
            replace HO240 := zA (kE (zP HO240.out) (kC ho0) hb)
            replace HO243 := zA (kE (zP HO243.out) (kC ho0) hb)
            replace HO247 := zA (kE (zP HO247.out) (kC ho0) hb)
            replace HO251 := zA (kE (zP HO251.out) (kC ho0) hb)
            replace HO255 := zA (kE (zP HO255.out) (kC ho0) hb)
            replace HO258 := zA (kE (zP HO258.out) (kC ho0) hb)
            replace BK222 := zA (zB1 BK222.out hb)
            replace HB := zA (kQ (zT HB.out GE222.out) hb)
            (try clear hb)
            (try clear hb2)
            (try clear hk)
            (try clear hi)
            (try clear hgw)
            (try clear ho0)
            obtain ⟨Ao62, co62, eo62⟩ := kM HO251.out
            (first | subst eo62 | (injection eo62 with f1_ f2_ f3_; have f4_ := f1_.symm; have f5_ := f3_.symm; clear f1_ f2_ f3_; subst f4_; subst f5_))
            refine hK.out _ _ ⟨(kV BK222.out 0).trans rfl, (kV BK222.out 1).trans rfl⟩ (fun hHeld => ?_)
            clear hK K
            refine norm_ (a' := ?_) ?_ ?_
            rotate_left
            ·show Act.put _ (some 99) _ = _
             simp only [Act.put, zL, zM, zN, i64_w, i32_w]
             rfl
            refine one_ (i := 11) (N := some 102) #[true, true, true, true, true, true, true, true, true, true, true, true, false, false, false] rfl rfl (one_of HT_.out (by kernel_rfl)) (by decide) (fun K hK => ?_)
            refine goes_ Tryd.func83 (by kernel_rfl) rfl #[.agg #[.int .i64 a0_0, .slice A0_1 l0_1.length c0_1], .slice Ao62 t249.length co62] (by rfl) rfl rfl zg ?_
            with_reducible refine (spec_l03Normal.calls kj35 a0_0 _ _ l0_1 _ _ t249 t262 _ ?side1 ?side2 ?side3 ?side4 A46.out).mono ?_
            (case side1 => exact zS (kO HR0_1.out HB.out))
            (case side2 => exact HC0_1.out)
            (case side3 => exact zS (kB HO251.out).2.2)
            (case side4 => exact (kB HO251.out).2.1)
            rintro e w63 ⟨v263, rfl, ho0, hb⟩
            refine ⟨_, rfl, ?_⟩
            have HO264 := zA (kI (kF (kF (kF (kF (kF (kF (kF ho0 (kH (zP HO240.out))) (kH (zP HO243.out))) (kH (zP HO247.out))) (kH (zP HO251.out))) (kH (zP HO255.out))) (kH (zP HO258.out))) (kH (zP HO261.out))) (kP (zT HB.out GE222.out)))
            replace HO240 := zA (kE (zP HO240.out) (kC ho0) hb)
            replace HO243 := zA (kE (zP HO243.out) (kC ho0) hb)
            replace HO247 := zA (kE (zP HO247.out) (kC ho0) hb)
            replace HO251 := zA (kE (zP HO251.out) (kC ho0) hb)
            replace HO255 := zA (kE (zP HO255.out) (kC ho0) hb)
            replace HO258 := zA (kE (zP HO258.out) (kC ho0) hb)
            replace HO261 := zA (kE (zP HO261.out) (kC ho0) hb)
            replace BK222 := zA (zB1 BK222.out hb)
            replace HB := zA (kQ (zT HB.out GE222.out) hb)
            (try clear hb)
            (try clear hb2)
            (try clear hk)
            (try clear hi)
            (try clear hgw)
            (try clear ho0)
            obtain ⟨Ao64, co64, eo64⟩ := kM HO255.out
            (first | subst eo64 | (injection eo64 with f1_ f2_ f3_; have f4_ := f1_.symm; have f5_ := f3_.symm; clear f1_ f2_ f3_; subst f4_; subst f5_))
            obtain ⟨Ao65, co65, eo65⟩ := kM HO258.out
            (first | subst eo65 | (injection eo65 with f1_ f2_ f3_; have f4_ := f1_.symm; have f5_ := f3_.symm; clear f1_ f2_ f3_; subst f4_; subst f5_))
            obtain ⟨Ao66, co66, eo66⟩ := kM HO261.out
            (first | subst eo66 | (injection eo66 with f1_ f2_ f3_; have f4_ := f1_.symm; have f5_ := f3_.symm; clear f1_ f2_ f3_; subst f4_; subst f5_))
            obtain ⟨Ao67, co67, eo67⟩ := kM HO264.out
            (first | subst eo67 | (injection eo67 with f1_ f2_ f3_; have f4_ := f1_.symm; have f5_ := f3_.symm; clear f1_ f2_ f3_; subst f4_; subst f5_))
            refine hK.out _ _ ⟨(kV BK222.out 0).trans rfl, (kV BK222.out 1).trans rfl⟩ (fun hHeld => ?_)
            clear hK K
            refine norm_ (a' := ?_) ?_ ?_
            rotate_left
            ·show Act.put _ (some 102) _ = _
             simp only [Act.put, zL, zM, zN, i64_w, i32_w]
             rfl
            refine one_ (i := 12) (N := some 103) #[true, true, true, true, true, true, true, true, true, true, true, true, true, false, false] rfl rfl (one_of HT_.out (by kernel_rfl)) (by decide) (fun K hK => ?_)
            refine Kd.S_lits_step (Kd.slice 2 (Kd.int .i64)) w.heap.size 22 ?hg (N := 103) ?hd (xs := ([t253, t256, t259, t262] : List (List Int))) (inner := [.slice Ao64 t253.length co64, .slice Ao65 t256.length co65, .slice Ao66 t259.length co66, .slice Ao67 t262.length co67]) (ok := (fun k_ => some k_ ≠ (.slice Ao50 t238.length co50 : Value).ownBlock ∧ some k_ ≠ (.slice Ao59 t241.length co59 : Value).ownBlock ∧ some k_ ≠ (.slice Ao55 t245.length co55 : Value).ownBlock ∧ some k_ ≠ (.slice Ao62 t249.length co62 : Value).ownBlock)) (fun j_ k_ => (j_ = 0 ∧ some k_ = (.slice Ao64 t253.length co64 : Value).ownBlock) ∨ (j_ = 1 ∧ some k_ = (.slice Ao65 t256.length co65 : Value).ownBlock) ∨ (j_ = 2 ∧ some k_ = (.slice Ao66 t259.length co66 : Value).ownBlock) ∨ (j_ = 3 ∧ some k_ = (.slice Ao67 t262.length co67 : Value).ownBlock)) ?hr rfl ?hp ?ha ?ho ((show ∀ k_, w63.heap.size ≤ k_ → (fun k_ => some k_ ≠ (.slice Ao50 t238.length co50 : Value).ownBlock ∧ some k_ ≠ (.slice Ao59 t241.length co59 : Value).ownBlock ∧ some k_ ≠ (.slice Ao55 t245.length co55 : Value).ownBlock ∧ some k_ ≠ (.slice Ao62 t249.length co62 : Value).ownBlock) k_ from fun k_ hk => ⟨jF (kH (zP HO240.out)) k_ hk, jF (kH (zP HO243.out)) k_ hk, jF (kH (zP HO247.out)) k_ hk, jF (kH (zP HO251.out)) k_ hk⟩) _ (Nat.le_refl _)) (kW _ _) (kP (zT HB.out GE222.out)) (by simp) ?_; (case hd => rfl); (case hg => rfl); (case hr => first | (go_simp; done) | (go_simp; rfl))
            (case hp => rintro (_ | _ | _ | _ | j_) x_ hx_; (obtain rfl : t253 = x_ := Option.some.inj hx_); exact (show Kd.M (Kd.slice 2 (Kd.int .i64)) _ _ _ t253 [.slice Ao64 t253.length co64] from Kd.M_row (Kd.R_reok rfl (zP HO255.out) (fun k_ e_ => Or.inl (⟨rfl, e_.symm⟩)))); (obtain rfl : t256 = x_ := Option.some.inj hx_); exact (show Kd.M (Kd.slice 2 (Kd.int .i64)) _ _ _ t256 [.slice Ao65 t256.length co65] from Kd.M_row (Kd.R_reok rfl (zP HO258.out) (fun k_ e_ => Or.inr (Or.inl (⟨rfl, e_.symm⟩))))); (obtain rfl : t259 = x_ := Option.some.inj hx_); exact (show Kd.M (Kd.slice 2 (Kd.int .i64)) _ _ _ t259 [.slice Ao66 t259.length co66] from Kd.M_row (Kd.R_reok rfl (zP HO261.out) (fun k_ e_ => Or.inr (Or.inr (Or.inl (⟨rfl, e_.symm⟩)))))); (obtain rfl : t262 = x_ := Option.some.inj hx_); exact (show Kd.M (Kd.slice 2 (Kd.int .i64)) _ _ _ t262 [.slice Ao67 t262.length co67] from Kd.M_row (Kd.R_reok rfl (zP HO264.out) (fun k_ e_ => Or.inr (Or.inr (Or.inr (⟨rfl, e_.symm⟩)))))); exact absurd hx_ (by simp))
            (case ha => rintro i_ j_ k_ (⟨rfl, hi_⟩ | ⟨rfl, hi_⟩ | ⟨rfl, hi_⟩ | ⟨rfl, hi_⟩) (⟨rfl, hj_⟩ | ⟨rfl, hj_⟩ | ⟨rfl, hj_⟩ | ⟨rfl, hj_⟩); exact rfl; exact absurd hj_ ((HO255.out.1 k_ hi_.symm).1.1.2); exact absurd hj_ ((HO255.out.1 k_ hi_.symm).1.2); exact absurd hj_ ((HO255.out.1 k_ hi_.symm).2); exact absurd hj_ ((HO258.out.1 k_ hi_.symm).1.1.2); exact rfl; exact absurd hj_ ((HO258.out.1 k_ hi_.symm).1.2); exact absurd hj_ ((HO258.out.1 k_ hi_.symm).2); exact absurd hj_ ((HO261.out.1 k_ hi_.symm).1.1.2); exact absurd hj_ ((HO261.out.1 k_ hi_.symm).1.2); exact rfl; exact absurd hj_ ((HO261.out.1 k_ hi_.symm).2); exact absurd hj_ ((HO264.out.1 k_ hi_.symm).1.1.2); exact absurd hj_ ((HO264.out.1 k_ hi_.symm).1.2); exact absurd hj_ ((HO264.out.1 k_ hi_.symm).2); exact rfl)
            (case ho => rintro j_ k_ (⟨_, hi_⟩ | ⟨_, hi_⟩ | ⟨_, hi_⟩ | ⟨_, hi_⟩); exact ⟨(HO255.out.1 k_ hi_.symm).1.1.1.1.1.1.2, ⟨(HO255.out.1 k_ hi_.symm).1.1.1.1.1.2, ⟨(HO255.out.1 k_ hi_.symm).1.1.1.1.2, (HO255.out.1 k_ hi_.symm).1.1.1.2⟩⟩⟩; exact ⟨(HO258.out.1 k_ hi_.symm).1.1.1.1.1.1.2, ⟨(HO258.out.1 k_ hi_.symm).1.1.1.1.1.2, ⟨(HO258.out.1 k_ hi_.symm).1.1.1.1.2, (HO258.out.1 k_ hi_.symm).1.1.1.2⟩⟩⟩; exact ⟨(HO261.out.1 k_ hi_.symm).1.1.1.1.1.1.2, ⟨(HO261.out.1 k_ hi_.symm).1.1.1.1.1.2, ⟨(HO261.out.1 k_ hi_.symm).1.1.1.1.2, (HO261.out.1 k_ hi_.symm).1.1.1.2⟩⟩⟩; exact ⟨(HO264.out.1 k_ hi_.symm).1.1.1.1.1.1.2, ⟨(HO264.out.1 k_ hi_.symm).1.1.1.1.1.2, ⟨(HO264.out.1 k_ hi_.symm).1.1.1.1.2, (HO264.out.1 k_ hi_.symm).1.1.1.2⟩⟩⟩)
            intro v266 w68 ho69 hb hg_ hnew_
            replace hb := Below.grown (kW _ _) hg_ (Nat.le_refl _) (fun _ e_ => nomatch e_)
            have hbs_ : ∀ k_, (v266 : Value).ownBlock = some k_ → w63.heap.size ≤ k_ := (fun k_ e_ => by obtain ⟨b_, h1_, h2_⟩ := hnew_; rw [h1_] at e_; cases e_; exact h2_)
            clear hg_ hnew_
            rw [← Ny265.out] at ho69
            replace HO240 := zA (kL (zP HO240.out) hb)
            replace HO243 := zA (kL (zP HO243.out) hb)
            replace HO247 := zA (kL (zP HO247.out) hb)
            replace HO251 := zA (kL (zP HO251.out) hb)
            have HO267 := zA (ho69)
            replace BK222 := zA (zB1 BK222.out hb)
            replace HB := zA (kQ (zT HB.out GE222.out) hb)
            clear HO255 HO258 HO261 HO264 hb hbs_ ho69
            refine hK.out _ _ ⟨(kV BK222.out 0).trans rfl, (kV BK222.out 1).trans rfl⟩ (fun hHeld => ?_)
            clear hK K
            refine norm_ (a' := ?_) ?_ ?_
            rotate_left
            ·show Act.put _ (some 103) _ = _
             simp only [Act.put, zL, zM, zN, i64_w, i32_w]
             rfl
            refine zp 13 (some 10) #[true, true, true, true, true, true, true, true, true, true, true, true, true, true, false] HT_.out ?_
            refine zp 14 (some 11) #[true, true, true, true, true, true, true, true, true, true, true, true, true, true, true] HT_.out ?_
            refine done_ (done_of HT_.out (by kernel_rfl)) ?_
            try go_wp2
            go_ret2
            exact ⟨_, zr, by (with_reducible repeat (first | apply Kd.S_alloc | apply Kd.S_drewN | apply Kd.S_drew)); exact Kd.S_mono HO267.out (fun _ hk => trivial), zT HB.out GE222.out⟩
           rw [if_neg c38] at H
           obtain ⟨c38b0, c38b1⟩ := zT2 c38
           simp only [Option.some.injEq, Prod.mk.injEq] at H
           obtain ⟨rfl, rfl⟩ := H
           go_wp2
           go_ret2
           exact ⟨_, zr, by first | exact Kd.S_nil _ _ _ _ _ | exact Kd.N_nil _ _ _ _ _ | exact Kd.V_nil _ _ _ _ _ | exact Kd.Q_nil _ _ _ _ _ | exact jO _ _ _ _ _, zT HB.out GE222.out⟩

/-! ### impl_inRange: function 111 -/
def impl_inRange.f (a0 : Int) (a1 : Int) (a2 : Int) : Option (Bool) := if a1 ≤ a0 then (some (decide (a0 ≤ a2))) else (some false)
set_option maxHeartbeats 8000000 in
set_option maxRecDepth 100000 in
theorem impl_inRange.calls (a0 : Int) (a1 : Int) (a2 : Int) (r : Bool) (w : World) (h : impl_inRange.f a0 a1 a2 = some r) :
  Calls Tryd.prog 111 #[.int .i64 a0, .int .i64 a1, .int .i64 a2] w fun e w' => e = .returned (.bool r) ∧ Drawn0 w w' := by
 have H := h
 unfold impl_inRange.f at H
 clear h
 by_cases c4 : a1 ≤ a0
 ·rw [if_pos c4] at H
  have c4b0 : decide (a1 ≤ a0) = true := decide_eq_true c4
  clear c4
  obtain rfl := Option.some.inj H
  go_enter Tryd.func111, Tryd.ntmps111
  go_wp2
  go_ret
  exact ⟨zs, by repeat (first | exact Drawn0.refl _ | apply Drawn0.step)⟩
 rw [if_neg c4] at H
 have c4b0 : decide (a1 ≤ a0) = false := decide_eq_false c4
 clear c4
 obtain rfl := Option.some.inj H
 go_enter Tryd.func111, Tryd.ntmps111
 go_wp2
 go_ret
 exact ⟨zs, by repeat (first | exact Drawn0.refl _ | apply Drawn0.step)⟩

/-! ### impl_length_int64: function 119 -/
def impl_length_int64.f (l0 : List Int) : Option (Int) := some (l0.length : Int)
set_option maxHeartbeats 8000000 in
set_option maxRecDepth 100000 in
theorem impl_length_int64.calls (A0 : Option Addr) (c0 : Nat) (l0 : List Int) (r : Int) (w : World) (hr0 : Kd.C (Kd.int .i64) w A0 l0.length l0) (hc0 : l0.length ≤ c0) (h : impl_length_int64.f l0 = some r) :
  Calls Tryd.prog 119 #[.slice A0 l0.length c0] w fun e w' => e = .returned (.int .i64 r) ∧ Drawn0 w w' := by
 have HR0 := zA hr0
 have HC0 := zA hc0
 clear hr0 hc0
 have H := h
 unfold impl_length_int64.f at H
 clear h
 obtain rfl := Option.some.inj H
 go_enter Tryd.func119, Tryd.ntmps119
 go_wp2
 go_ret
 exact ⟨zs, by repeat (first | exact Drawn0.refl _ | apply Drawn0.step)⟩

/-! ### impl_one: function 118 -/
def impl_one.f (a0 : Int) : Option (Int) := if 0 ≤ a0 then (some (shl .i64 1 a0)) else (none)
set_option maxHeartbeats 8000000 in
set_option maxRecDepth 100000 in
theorem impl_one.calls (a0 : Int) (r : Int) (w : World) (h : impl_one.f a0 = some r) :
  Calls Tryd.prog 118 #[.int .i64 a0] w fun e w' => e = .returned (.int .i64 r) ∧ Drawn0 w w' := by
 have H := h
 unfold impl_one.f at H
 clear h
 by_cases c2 : 0 ≤ a0
 ·rw [if_pos c2] at H
  have c2b0 := eq_true c2
  have c2b1 : decide (0 ≤ a0) = true := decide_eq_true c2
  clear c2
  obtain ⟨ji3, hji3⟩ : ∃ j_ : Int, (shl .i64 1 a0) = j_ := ⟨_, rfl⟩
  replace H : (some ji3) = some r := by first | (rw [hji3] at H; exact H) | (simp only [hji3] at H ⊢; exact H)
  have hji3_ : (IntKind.i64.wrap (1 * 2 ^ min a0.toNat 64)) = ji3 := hji3
  have hji3z : a0 ≤ 64 → (IntKind.i64.wrap (1 * 2 ^ a0.toNat)) = ji3 := shl_small hji3
  have hji3u : (IntKind.i64.wrap (2 ^ min a0.toNat 64)) = ji3 := by have h_ := hji3_; rw [Int.one_mul] at h_; exact h_
  have hji3v : a0 ≤ 64 → (IntKind.i64.wrap (2 ^ a0.toNat)) = ji3 := fun hle_ => by have h_ := hji3z hle_; rw [Int.one_mul] at h_; exact h_
  have hji3y : (wrap64 (1 * 2 ^ min a0.toNat 64)) = ji3 := (i64_w _).symm.trans hji3_
  have hji3x : a0 ≤ 64 → (wrap64 (1 * 2 ^ a0.toNat)) = ji3 := fun h_ => (i64_w _).symm.trans (hji3z h_)
  obtain rfl := Option.some.inj H
  go_enter Tryd.func118, Tryd.ntmps118
  go_wp2
  go_ret
  exact ⟨by first | rfl | (simp; done) | (simp only [← hji3] <;> (first | rfl | simp)) | (simp [*]; done), by repeat (first | exact Drawn0.refl _ | apply Drawn0.step)⟩
 rw [if_neg c2] at H
 exact absurd H (by simp)

-- NOT PRINTED: function 193 (slices_IndexFunc_int64_int64_193)

-- NOT PRINTED: function 169 (slices_ContainsFunc_int64_int64_169)

/-! ### impl_allIn: function 176: a contract of our own -/
def impl_allIn.f (l0 : List Int) (a1 a2 : Int) : Option Bool := some (l0.all fun x => decide (a1 ≤ x ∧ x ≤ a2))
theorem allIn_pred (l : List Int) (lo hi : Int) (B : Nat) (w : World) (hB : B + 1 < w.heap.size) (h1 : w.cell? ⟨B, 0, none⟩ = some (.int .i64 lo)) (h2 : w.cell? ⟨B + 1, 0, none⟩ = some (.int .i64 hi)) :
  PredOf 195 #[.pointer (some ⟨B, 0, none⟩), .pointer (some ⟨B + 1, 0, none⟩)] (fun x => !decide (lo ≤ x ∧ x ≤ hi)) w l := fun W x _ hb => by
 have hc1 : W.cell? ⟨B, 0, none⟩ = some (.int .i64 lo) := (hb.cell (p := ⟨B, 0, none⟩) (by simp; omega)).trans h1
 have hc2 : W.cell? ⟨B + 1, 0, none⟩ = some (.int .i64 hi) := (hb.cell (p := ⟨B + 1, 0, none⟩) (by simpa using hB)).trans h2
 clear h1 h2 hb
 show Calls Tryd.prog 195 #[.int .i64 x, .pointer (some ⟨B, 0, none⟩), .pointer (some ⟨B + 1, 0, none⟩)] W _
 by_cases c1 : lo ≤ x <;> by_cases c2 : x ≤ hi
 all_goals
  go_enter Tryd.func195, Tryd.ntmps195
  go_wp2
  go_ret
  exact ⟨by simp [c1, c2], kW _ _⟩
theorem impl_allIn.calls (A0 : Option Addr) (c0 : Nat) (l0 : List Int) (a1 : Int) (a2 : Int) (r : Bool) (w : World) (hr0 : Kd.C (Kd.int .i64) w A0 l0.length l0) (hc0 : l0.length ≤ c0) (h : impl_allIn.f l0 a1 a2 = some r) :
  Calls Tryd.prog 176 #[.slice A0 l0.length c0, .int .i64 a1, .int .i64 a2] w fun e w' => e = .returned (.bool r) ∧ Below w.heap.size w w' := by
 have hW : Below w.heap.size w ((w.alloc (.cells #[.int .i64 a1] 2)).alloc (.cells #[.int .i64 a2] 2)) := zB (zB (kW _ w) _) _
 have eg : ∀ args w, (callFunc 195 args).run Tryd.prog w = .ok (.enter 195 args) w := enters_fn Tryd.func195 (by kernel_rfl) rfl
 have hcon := containsFunc_any A0 c0 l0 195 #[.pointer (some ⟨w.heap.size, 0, none⟩), .pointer (some ⟨w.heap.size + 1, 0, none⟩)] (fun x => !decide (a1 ≤ x ∧ x ≤ a2)) _ eg
  (allIn_pred l0 a1 a2 w.heap.size ((w.alloc (.cells #[.int .i64 a1] 2)).alloc (.cells #[.int .i64 a2] 2)) (by simp) (by simp) (by simp)) (kO hr0 hW)
 have hr : (!(l0.any fun x => !decide (a1 ≤ x ∧ x ≤ a2))) = r := by
  have := Option.some.inj h
  rw [← this, List.all_eq_not_any_not]
 clear h hr0 eg
 generalize (l0.any fun x => !decide (a1 ≤ x ∧ x ≤ a2)) = b at hcon hr
 subst hr
 replace hW := zA hW
 go_enter Tryd.func176, Tryd.ntmps176
 go_wp2_with fail
 refine hcon.mono ?_
 rintro e w' ⟨rfl, hb⟩
 replace hb := zA hb
 clear hcon
 go_wp2
 go_ret
 exact ⟨rfl, kQ hW.out hb.out⟩

/-! ### impl_IsRelation: function 123 -/
def impl_IsRelation.f (l0 : List Int) : Option (Bool) := if (l0.length : Int) ≤ 24 then ((impl_length_int64.f l0).bind fun t268 => ((impl_one.f t268).bind fun t269 => ((impl_allIn.f l0 0 (wrap64 (t269 - 1))).bind fun t270 => (some t270)))) else (some false)
set_option maxHeartbeats 8000000 in
set_option maxRecDepth 100000 in
theorem impl_IsRelation.calls (A0 : Option Addr) (c0 : Nat) (l0 : List Int) (r : Bool) (w : World) (hr0 : Kd.C (Kd.int .i64) w A0 l0.length l0) (hc0 : l0.length ≤ c0) (h : impl_IsRelation.f l0 = some r) :
  Calls Tryd.prog 123 #[.slice A0 l0.length c0] w fun e w' => e = .returned (.bool r) ∧ Below w.heap.size w w' := by
 have HR0 := zA hr0
 have HC0 := zA hc0
 clear hr0 hc0
 have HB := zA (kW w.heap.size w)
 have H := h
 unfold impl_IsRelation.f at H
 clear h
 by_cases c2 : (l0.length : Int) ≤ 24
 ·rw [if_pos c2] at H
  have c2b0 : decide ((l0.length : Int) ≤ 24) = true := decide_eq_true c2
  have c2b1 : decide (l0.length ≤ 24) = true := decide_eq_true (by omega)
  clear c2
  obtain ⟨t268, A3, H⟩ := zb H
  try dsimp only at H
  obtain ⟨t269, A4, H⟩ := zb H
  try dsimp only at H
  obtain ⟨t270, A5, H⟩ := zb H
  try dsimp only at H
  obtain rfl := Option.some.inj H
  go_enter Tryd.func123, Tryd.ntmps123
  go_wp2_with (first | (go_at_call 119; (with_reducible refine (impl_length_int64.calls _ _ l0 t268 _ ?side1 ?side2 A3.out).mono ?_); (case side1 => exact zS HR0.out); (case side2 => exact HC0.out); rintro e w' ⟨rfl, ⟨nd, rfl⟩⟩) | (go_at_call 118; (with_reducible refine (impl_one.calls t268 t269 _ A4.out).mono ?_); rintro e w' ⟨rfl, ⟨nd, rfl⟩⟩) | (go_at_call 176; (with_reducible refine (impl_allIn.calls _ _ l0 0 (wrap64 (t269 - 1)) t270 _ ?side1 ?side2 A5.out).mono ?_); (case side1 => exact zS HR0.out); (case side2 => exact HC0.out); rintro e w6 ⟨rfl, hb⟩; replace HB := zA (kQ (zQ HB.out) hb); (try clear hb)))
  go_ret
  exact ⟨zr, zQ HB.out⟩
 rw [if_neg c2] at H
 have c2b0 : decide ((l0.length : Int) ≤ 24) = false := decide_eq_false c2
 have c2b1 : decide (l0.length ≤ 24) = false := decide_eq_false (by omega)
 clear c2
 obtain rfl := Option.some.inj H
 go_enter Tryd.func123, Tryd.ntmps123
 go_wp2
 go_ret
 exact ⟨zr, zQ HB.out⟩

/-! ### bits_TrailingZeros64: function 186: a contract of our own -/
def bits_TrailingZeros64.f (a0 : Int) : Option Int := if 0 ≤ a0 ∧ a0 < 18446744073709551616 then some (Lib.ctz 64 a0.toNat : Int) else none

set_option maxHeartbeats 1000000 in
theorem tz64_core (x k idx : Nat) (w : World) (hx0 : ((x : Int) == 0) = false)
  (key : IntKind.u64.wrap (bits BinOp.and IntKind.u64 (x : Int) (IntKind.u64.wrap (-(x : Int))) * 285870213051353865) / 288230376151711744 = (idx : Int))
  (hi : idx < 64) (hk : k < 64) (hcell : w.cell? ⟨0, idx, none⟩ = some (.int .u8 k)) :
  Calls Tryd.prog 186 #[.int .u64 x] w fun e w' => e = .returned (.int .i64 k) ∧ w = w' := by
 go_enter Tryd.func186, Tryd.ntmps186
 go_wp2_with (simp only [key])
 go_ret
 exact ⟨rfl, rfl⟩
theorem tz64_zero (w : World) : Calls Tryd.prog 186 #[.int .u64 0] w fun e w' => e = .returned (.int .i64 64) ∧ w = w' := by
 go_enter Tryd.func186, Tryd.ntmps186
 go_wp2
 go_ret
 exact ⟨rfl, rfl⟩
theorem tz64_key (x a : Nat) (hx : x < 18446744073709551616) (hx0 : x ≠ 0) (hlow : x &&& (18446744073709551616 - x) = a) :
  IntKind.u64.wrap (bits BinOp.and IntKind.u64 (x : Int) (IntKind.u64.wrap (-(x : Int))) * 285870213051353865) / 288230376151711744 = ((a * 285870213051353865 % 18446744073709551616 / 288230376151711744 : Nat) : Int) := by
 have e1 : IntKind.u64.wrap (-(x : Int)) = ((18446744073709551616 - x : Nat) : Int) := by rw [IntKind.wrap_u64]; omega
 rw [e1, bits_and_u64_nat x _ hx (by omega), hlow, IntKind.wrap_u64]
 omega
theorem bits_TrailingZeros64.calls (a0 : Int) (r : Int) (w : World) (hT : TabW w) (h : bits_TrailingZeros64.f a0 = some r) :
  Calls Tryd.prog 186 #[.int .u64 a0] w fun e w' => e = .returned (.int .i64 r) ∧ Drawn0 w w' := by
 unfold bits_TrailingZeros64.f at h
 split at h
 ·rename_i hr
  obtain ⟨x, rfl⟩ := Int.eq_ofNat_of_zero_le hr.1
  rw [Int.toNat_natCast] at h
  injection h with h
  subst h
  by_cases hx0 : x = 0
  ·subst hx0
   exact (tz64_zero w).mono fun e w' ⟨he, hw⟩ => ⟨he, ⟨0, hw.symm⟩⟩
  obtain ⟨hlow, hk⟩ := Lib.lowest_bit 64 x hx0 (by omega)
  obtain ⟨hi, htab⟩ := Lib.deBruijn64_at _ hk
  have hcell := hT _ hi
  rw [htab] at hcell
  exact (tz64_core x _ _ w (by simp; omega) (tz64_key x _ (by omega) hx0 hlow) hi hk hcell).mono fun e w' ⟨he, hw⟩ => ⟨he, ⟨0, hw.symm⟩⟩
 cases h

/-! ### impl_least: function 137 -/
def impl_least.f (a0 : Int) : Option (Int) := (bits_TrailingZeros64.f (IntKind.u64.wrap (a0))).bind fun t271 => (some t271)
set_option maxHeartbeats 8000000 in
set_option maxRecDepth 100000 in
theorem impl_least.calls (a0 : Int) (r : Int) (w : World) (hT : TabW w) (h : impl_least.f a0 = some r) :
  Calls Tryd.prog 137 #[.int .i64 a0] w fun e w' => e = .returned (.int .i64 r) ∧ Drawn0 w w' := by
 have HT := zA hT
 clear hT
 have H := h
 unfold impl_least.f at H
 clear h
 obtain ⟨t271, A2, H⟩ := zb H
 try dsimp only at H
 obtain rfl := Option.some.inj H
 go_enter Tryd.func137, Tryd.ntmps137
 go_wp2_with (first | (refine zO (some 5) Tryd.func186 #[.int .u64 (IntKind.u64.wrap (a0))] ?_; (with_reducible refine (bits_TrailingZeros64.calls (IntKind.u64.wrap (a0)) t271 _ ?side1 A2.out).mono ?_); (case side1 => repeat (first | (with_reducible first | exact HT.out | apply TabW.drewN | apply TabW.drew | apply TabW.alloc) | exact HT.out)); rintro e w' ⟨rfl, ⟨nd, rfl⟩⟩; refine ⟨_, rfl, ?_⟩))
 go_ret
 exact ⟨zs, by repeat (first | exact Drawn0.refl _ | apply Drawn0.step)⟩

/-! ### impl_members: function 138 -/
def impl_members.l0 : Nat → Int → List Int → Option (List Int)
 | 0, _, _ => none
 | k + 1, x0, x3 => if x0 = 0 then (some x3) else ((impl_least.f x0).bind fun t275 => (if x3.length < 17592186044416 then (impl_members.l0 k (Go.bits .and .i64 x0 (wrap64 (x0 - 1))) (x3 ++ [t275])) else (none)))
def impl_members.f (k : Nat) (a0 : Int) : Option (List Int) := impl_members.l0 k a0 (([] : List Int))

set_option maxHeartbeats 8000000 in
set_option maxRecDepth 100000 in
theorem impl_members.calls (k : Nat) (a0 : Int) (r : List Int) (w : World) (hT : TabW w) (h : impl_members.f k a0 = some r) :
  Calls Tryd.prog 138 #[.int .i64 a0] w fun e w' => ∃ v0_ : Value, e = .returned (v0_) ∧ Kd.R (Kd.int .i64) 2 w' w.heap.size (fun _ => True) v0_ r ∧ Below w.heap.size w w' := by
 have HT := zA hT
 clear hT
 have HB := zA (kW w.heap.size w)
 have H := h
 unfold impl_members.f at H
 clear h
 obtain ⟨y272, hy272⟩ : ∃ y_ : List Int, y_ = (([] : List Int)) := ⟨_, rfl⟩
 replace H : (impl_members.l0 k a0 y272) = some r := zy hy272 H
 have Ny272 := zA hy272
 clear hy272
 have H' := zA H
 clear H
 go_enter Tryd.func138, Tryd.ntmps138
 go_wp2_with (first | ((with_reducible refine kS (N := 4) rfl ?_); refine Kd.R_lit (Kd.int .i64) _ 2 ?hg (N := 4) ?hd (xs := ([] : List Int)) (inner := []) (ok := fun _ => True) (okp := fun _ => True) ?hr ?hp (fun _ hk => hk) trivial (kW _ _) (Nat.le_refl _) (by simp) ?_; (case hd => rfl); (case hg => rfl); (case hr => first | (go_simp; done) | (go_simp; rfl)); (case hp => exact (Reps.none _ _)); intro v273 w2 ho3 hb hg_ hnew_; clear hg_ hnew_; (first | rw [← Ny272.out] at ho3 | (simp only [Int.reduceToNat] at ho3; rw [← Ny272.out] at ho3)); have HO274 := zA (kI ho3 (kP (zQ HB.out))); replace HB := zA (kQ (zQ HB.out) hb); clear hb ho3))
 go_loopg [0, 3] k (fun kq v0 v3 w' => ∃ (x0_1 : Int) (x3_1 : List Int), v0 = .int .i64 x0_1 ∧ Aside0 (impl_members.l0 kq x0_1 x3_1 = some r) ∧ Aside0 (kq ≤ k) ∧ Aside0 (Kd.R (Kd.int .i64) 2 w' w.heap.size (fun _ => True) v3 x3_1) ∧ Aside0 (Below w.heap.size w w'))
 case atStart => exact ⟨(a0), (y272), zs, H', ⟨Nat.le_refl _⟩, ⟨zP HO274.out⟩, ⟨zQ HB.out⟩⟩
 case round =>
  clear H'
  try clear c1
  obtain ⟨x0_1, x3_1, rfl, HA, HK1, HO_3, HB⟩ := hrel
  cases gk with
  | zero => exact absurd HA.out (by simp [impl_members.l0])
  | succ k1 =>
   have H := HA.out
   clear HA
   simp only [impl_members.l0] at H
   by_cases c4 : x0_1 = 0
   ·rw [if_pos c4] at H
    obtain ⟨c4b0, c4b1⟩ := zT1 c4
    clear c4
    obtain rfl := Option.some.inj H
    go_wp2
    go_ret
    exact ⟨_, zr, zP HO_3.out, zQ HB.out⟩
   rw [if_neg c4] at H
   obtain ⟨c4b0, c4b1⟩ := zT2 c4
   obtain ⟨t275, A5, H⟩ := zb H
   try dsimp only at H
   by_cases c6 : x3_1.length < 17592186044416
   ·rw [if_pos c6] at H
    have LMc6 := zA c6
    clear c6
    obtain ⟨y276, hy276⟩ : ∃ y_ : List Int, y_ = (x3_1 ++ [t275]) := ⟨_, rfl⟩
    replace H : (impl_members.l0 k1 (Go.bits .and .i64 x0_1 (wrap64 (x0_1 - 1))) y276) = some r := zy hy276 H
    have Ny276 := zA hy276
    clear hy276
    have H' := zA H
    clear H
    go_wp2_with (first | (refine zO (some 13) Tryd.func137 #[.int .i64 x0_1] ?_; (with_reducible refine (impl_least.calls x0_1 t275 _ ?side1 A5.out).mono ?_); (case side1 => exact TabW.below HT.out (zQ HB.out)); rintro e w' ⟨rfl, ⟨nd, rfl⟩⟩; refine ⟨_, rfl, ?_⟩) | ((with_reducible refine gate_builtin (b := .append) (xs := #[.tmp 11, .tmp 14]) rfl ?_); at_builtin; refine Kd.R_append (Kd.int .i64) (w0 := w) w.heap.size rfl (.tmp 11) (.tmp 14) 22 2 (.int .i64 0) 8 rfl Tryd.underlying22 info2 rfl (by decide) (by omega) u3 x3_1 t275 [.int .i64 t275] (fun _ => True) (fun _ => False) rfl rfl ?aP (fun _ hk => hk.elim) ?aF ?aO ?aB ?aS ?aL ?_; (case aP => exact rfl); (case aB => exact (zQ HB.out)); (case aF => exact (fun _ _ => trivial)); (case aO => exact (zP HO_3.out)); (case aS => exact (kP (zQ HB.out))); (case aL => have := LMc6.out; omega); intro v277 w7 ho hb hg hat; rw [← Ny276.out] at ho; replace HB := zA (hb); have HO278 := zA (ho); clear HO_3; clear ho hb hg hat))
    go_roundg k1
    case measure => have := HK1.out; omega
    case rel => exact ⟨(Go.bits .and .i64 x0_1 (wrap64 (x0_1 - 1))), (y276), zs, H', ⟨by have := HK1.out; omega⟩, ⟨zP HO278.out⟩, ⟨zQ HB.out⟩⟩
   rw [if_neg c6] at H
   exact absurd H (by simp)

/-! ### impl_converse: function 141 -/
mutual
def impl_converse.l0 : Nat → List Int → List Int → Int → Int → Option (List Int)
 | 0, _, _, _, _ => none
 | k + 1, x3, x11, x12, x13 => if x13 < x12 then (if 0 ≤ x13 then (if x13 < (x11.length : Int) then ((impl_members.f k (rd x11 x13)).bind fun t283 => (impl_converse.l1 k x3 x13 x11 x12 x13 t283 (t283.length : Int) 0)) else (none)) else (none)) else (some x3)
def impl_converse.l1 : Nat → List Int → Int → List Int → Int → Int → List Int → Int → Int → Option (List Int)
 | 0, _, _, _, _, _, _, _, _ => none
 | k + 1, x3, x4, x11, x12, x13, x19, x20, x21 => if x21 < x20 then (if 0 ≤ x21 then (if x21 < (x19.length : Int) then (if 0 ≤ (rd x19 x21) then (if (rd x19 x21) < (x3.length : Int) then ((impl_one.f x4).bind fun t288 => (impl_converse.l1 k (x3.set ((rd x19 x21) : Int).toNat (Go.bits .or .i64 (rd x3 (rd x19 x21)) t288)) x4 x11 x12 x13 x19 x20 (wrap64 (x21 + 1)))) else (none)) else (none)) else (none)) else (none)) else (impl_converse.l0 k x3 x11 x12 (wrap64 (x13 + 1)))
end
def impl_converse.f (k : Nat) (l0 : List Int) : Option (List Int) := if 0 ≤ (l0.length : Int) then (if ((l0.length : Int) : Int).toNat ≤ 35184372088832 then (impl_converse.l0 k (List.replicate ((l0.length : Int) : Int).toNat 0) l0 (l0.length : Int) 0) else (none)) else (none)

def impl_converse.T8 : Bool × List (List Nat × List Nat) := (true, [([], []), ([], []), ([0, 1], [0, 1]), ([2], [2]), ([], []), ([4], [4]), ([3, 5], [3, 5]), ([0, 1, 0, 1, 2, 3, 4, 5, 6], [0, 1]), ([7, 6, 5, 0, 1, 2, 3, 4, 5, 6], [6, 7])])
def impl_converse.B8 : List Nat := [0, 0, 3, 7, 0, 16, 63, 127, 255]
theorem impl_converse.tab8 : rtab .any (opsOf Tryd.f141 8) = impl_converse.T8 := by kernel_rfl
theorem impl_converse.bits8 : waitsOk impl_converse.T8.2 impl_converse.B8 = true := by kernel_rfl
set_option maxHeartbeats 8000000 in
set_option maxRecDepth 100000 in
theorem impl_converse.calls (k : Nat) (A0 : Option Addr) (c0 : Nat) (l0 : List Int) (r : List Int) (w : World) (hr0 : Kd.C (Kd.int .i64) w A0 l0.length l0) (hc0 : l0.length ≤ c0) (hT : TabW w) (h : impl_converse.f k l0 = some r) :
  Calls Tryd.prog 141 #[.slice A0 l0.length c0] w fun e w' => ∃ v0_ : Value, e = .returned (v0_) ∧ Kd.R (Kd.int .i64) 2 w' w.heap.size (fun _ => True) v0_ r ∧ Below w.heap.size w w' := by
 have HT := zA hT
 clear hT
 have HR0 := zA hr0
 have HC0 := zA hc0
 clear hr0 hc0
 have HB := zA (kW w.heap.size w)
 have H := h
 unfold impl_converse.f at H
 clear h
 by_cases c2 : 0 ≤ (l0.length : Int)
 ·rw [if_pos c2] at H
  have c2b0 := eq_true c2
  have c2b1 : decide (0 ≤ (l0.length : Int)) = true := decide_eq_true c2
  clear c2
  by_cases c3 : ((l0.length : Int) : Int).toNat ≤ 35184372088832
  ·rw [if_pos c3] at H
   have c3b0 := eq_true c3
   have c3b1 : decide (((l0.length : Int) : Int).toNat ≤ 35184372088832) = true := decide_eq_true c3
   clear c3
   obtain ⟨y279, hy279⟩ : ∃ y_ : List Int, y_ = (List.replicate ((l0.length : Int) : Int).toNat 0) := ⟨_, rfl⟩
   replace H : (impl_converse.l0 k y279 l0 (l0.length : Int) 0) = some r := zy hy279 H
   have Ny279 := zA hy279
   clear hy279
   have H' := zA H
   clear H
   go_enter Tryd.func141, Tryd.ntmps141
   go_wp2_with (first | ((with_reducible refine kS (N := 10) rfl ?_); refine Kd.R_make (Kd.int .i64) _ 2 rfl (N := 10) rfl 22 _ _ rfl (l0.length : Int) rfl rfl Tryd.underlying22 (.int .i64 0) 8 info2 rfl (by decide) (by omega) 0 (ok := fun _ => True) (okp := fun _ => True) rfl (fun _ hk => hk) trivial (zd) (Nat.le_trans (Nat.mul_le_mul_right _ (zd : (l0.length : Int).toNat ≤ 35184372088832)) (by omega)) (kW _ _) (Nat.le_refl _) ?_; intro v280 w4 ho5 hb hg_ hnew_; clear hg_ hnew_; (first | rw [← Ny279.out] at ho5 | (simp only [Int.reduceToNat] at ho5; rw [← Ny279.out] at ho5)); have HO281 := zA (kI ho5 (kP (zQ HB.out))); replace HB := zA (kQ (zQ HB.out) hb); clear hb ho5))
   go_loopg [13] k (fun kq v13 w' => ∃ (x3_1 : List Int) (x13_1 : Int), v13 = .int .i64 x13_1 ∧ Aside0 (impl_converse.l0 kq x3_1 l0 (l0.length : Int) x13_1 = some r) ∧ Aside0 (kq ≤ k) ∧ Aside0 (Kd.R (Kd.int .i64) 2 w' w.heap.size (fun _ => True) v280 x3_1) ∧ Aside0 (Below w.heap.size w w'))
   case atStart => exact ⟨(y279), (0), zs, H', ⟨Nat.le_refl _⟩, ⟨zP HO281.out⟩, ⟨zQ HB.out⟩⟩
   case round =>
    clear H'
    try clear c1
    try clear c2
    try clear c3
    obtain ⟨x3_1, x13_1, rfl, HA, HK1, HO_3, HB⟩ := hrel
    cases gk with
    | zero => exact absurd HA.out (by simp [impl_converse.l0])
    | succ k1 =>
     have H := HA.out
     clear HA
     simp only [impl_converse.l0] at H
     by_cases c6 : x13_1 < (l0.length : Int)
     ·rw [if_pos c6] at H
      have c6b0 : decide (x13_1 < (l0.length : Int)) = true := decide_eq_true c6
      clear c6
      by_cases c7 : 0 ≤ x13_1
      ·rw [if_pos c7] at H
       have c7b0 : decide (0 ≤ x13_1) = true := decide_eq_true c7
       clear c7
       by_cases c8 : x13_1 < (l0.length : Int)
       ·rw [if_pos c8] at H
        have c8b0 : decide (x13_1 < (l0.length : Int)) = true := decide_eq_true c8
        clear c8
        obtain ⟨t283, A9, H⟩ := zb H
        try dsimp only at H
        have H' := zA H
        clear H
        have p282 : 0 ≤ (x13_1 : Int) := zd
        have q282 : x13_1 < (l0.length : Int) := zd
        obtain ⟨ad282, e282, hx282_0⟩ := Kd.at_int HR0.out x13_1 p282 q282
        cases e282
        replace hx282_0 := (HB.out.cell (jG w _ hx282_0)).trans hx282_0
        replace p282 := eq_true p282
        replace q282 := eq_true q282
        go_wp2_with (first | (refine zO (some 19) Tryd.func138 #[.int .i64 (rd l0 x13_1)] ?_; (with_reducible refine (impl_members.calls k1 (rd l0 x13_1) t283 _ ?side1 A9.out).mono ?_); (case side1 => exact TabW.below HT.out (zQ HB.out)); rintro e w10 ⟨v284, rfl, ho0, hb⟩; refine ⟨_, rfl, ?_⟩; have HO285 := zA (kI (kF ho0 (kH (zP HO_3.out))) (kP (zQ HB.out))); replace HO_3 := zA (kE (zP HO_3.out) (kC ho0) hb); replace HB := zA (kQ (zQ HB.out) hb); (try clear hb); (try clear ho0); obtain ⟨Ao11, co11, eo11⟩ := kM HO285.out; subst eo11))
        go_loopg [21] k1 (fun kq v21 w' => ∃ (x3_2 : List Int) (x21_2 : Int), v21 = .int .i64 x21_2 ∧ Aside0 (impl_converse.l1 kq x3_2 x13_1 l0 (l0.length : Int) x13_1 t283 (t283.length : Int) x21_2 = some r) ∧ Aside0 (kq ≤ k1) ∧ Aside0 (Kd.R (Kd.int .i64) 2 w' w.heap.size (fun k_ => some k_ ≠ ((.slice Ao11 t283.length co11) : Value).ownBlock) v280 x3_2) ∧ Aside0 (Kd.R (Kd.int .i64) 2 w' w.heap.size (fun k_ => some k_ ≠ (v280 : Value).ownBlock) (.slice Ao11 t283.length co11) t283) ∧ Aside0 (Below w.heap.size w w'))
        case atStart => exact ⟨(x3_1), (0), zs, H', ⟨Nat.le_refl _⟩, ⟨zPM HO_3.out (fun _ hk => hk.2)⟩, ⟨zPM HO285.out (fun _ hk => hk.2)⟩, ⟨zQ HB.out⟩⟩
        case round =>
         clear H'
         try clear c1
         try clear c2
         try clear hx2
         try clear c3
         try clear c6
         try clear c7
         try clear c8
         try clear hx282_0
         obtain ⟨x3_2, x21_2, rfl, HA, HK2, HO_3, HO_19, HB⟩ := hrel
         cases gk with
         | zero => exact absurd HA.out (by simp [impl_converse.l1])
         | succ k2 =>
          have H := HA.out
          clear HA
          simp only [impl_converse.l1] at H
          by_cases c12 : x21_2 < (t283.length : Int)
          ·rw [if_pos c12] at H
           have c12b0 : decide (x21_2 < (t283.length : Int)) = true := decide_eq_true c12
           clear c12
           by_cases c13 : 0 ≤ x21_2
           ·rw [if_pos c13] at H
            have c13b0 : decide (0 ≤ x21_2) = true := decide_eq_true c13
            clear c13
            by_cases c14 : x21_2 < (t283.length : Int)
            ·rw [if_pos c14] at H
             have c14b0 : decide (x21_2 < (t283.length : Int)) = true := decide_eq_true c14
             clear c14
             by_cases c15 : 0 ≤ (rd t283 x21_2)
             ·rw [if_pos c15] at H
              have c15b0 : decide (0 ≤ (rd t283 x21_2)) = true := decide_eq_true c15
              clear c15
              by_cases c16 : (rd t283 x21_2) < (x3_2.length : Int)
              ·rw [if_pos c16] at H
               have c16b0 : decide ((rd t283 x21_2) < (x3_2.length : Int)) = true := decide_eq_true c16
               clear c16
               obtain ⟨t288, A17, H⟩ := zb H
               try dsimp only at H
               obtain ⟨y289, hy289⟩ : ∃ y_ : List Int, y_ = (x3_2.set ((rd t283 x21_2) : Int).toNat (Go.bits .or .i64 (rd x3_2 (rd t283 x21_2)) t288)) := ⟨_, rfl⟩
               replace H : (impl_converse.l1 k2 y289 x13_1 l0 (l0.length : Int) x13_1 t283 (t283.length : Int) (wrap64 (x21_2 + 1))) = some r := zy hy289 H
               have Ny289 := zA hy289
               clear hy289
               have H' := zA H
               clear H
               have p286 : 0 ≤ (x21_2 : Int) := zd
               have q286 : x21_2 < (t283.length : Int) := zd
               obtain ⟨ad286, e286, hx286_0⟩ := Kd.at_int (kB HO_19.out).2.2 x21_2 p286 q286
               cases e286
               replace p286 := eq_true p286
               replace q286 := eq_true q286
               try go_wp2
               replace HO_3 := zA (zH HO_3.out)
               replace HO_19 := zA (zH HO_19.out)
               replace HB := zA (zD HB.out)
               obtain ⟨Ao20, co20, eo20⟩ := kM HO_3.out
               (first | subst eo20 | (injection eo20 with f1_ f2_ f3_; have f4_ := f1_.symm; have f5_ := f3_.symm; clear f1_ f2_ f3_; subst f4_; subst f5_))
               have p287 : 0 ≤ ((rd t283 x21_2) : Int) := zd
               have q287 : (rd t283 x21_2) < (x3_2.length : Int) := zd
               obtain ⟨ad287, e287, hx287_0⟩ := Kd.at_int (kB HO_3.out).2.2 (rd t283 x21_2) p287 q287
               cases e287
               replace p287 := eq_true p287
               replace q287 := eq_true q287
               refine start_ (n := 9) (S := fun w' => w'.cell? (ad287.add ((rd t283 x21_2)).toNat) = some (.int .i64 (rd x3_2 (rd t283 x21_2)))) (ds := [8]) #[false, false, false, false, false, false, false, false, false] (by kernel_rfl) rfl rfl (hx287_0) (fun hHeld => ?_); refine with_tabW impl_converse.tab8 impl_converse.bits8 (fun HT_ HW_ => ?_)
               generalize wr.drew = w19 at HO_3 HO_19 HB hx287_0 hHeld ⊢
               refine zp 0 (some 25) #[true, false, false, false, false, false, false, false, false] HT_.out ?_
               refine zp 1 (some 26) #[true, true, false, false, false, false, false, false, false] HT_.out ?_
               refine zp 2 (some 27) #[true, true, true, false, false, false, false, false, false] HT_.out ?_
               refine zp 4 (some 29) #[true, true, true, false, true, false, false, false, false] HT_.out ?_
               refine za 3 (some 28) #[true, true, true, true, true, false, false, false, false] HT_.out HW_.out hHeld ?_
               refine one_ (i := 5) (N := some 30) #[true, true, true, true, true, true, false, false, false] rfl rfl (one_of HT_.out (by kernel_rfl)) (by decide) (fun K hK => ?_)
               refine goes_ Tryd.func118 (by kernel_rfl) rfl #[.int .i64 x13_1] (by rfl) rfl rfl zg ?_
               with_reducible refine (impl_one.calls x13_1 t288 _ A17.out).mono ?_
               rintro e w' ⟨rfl, ⟨nd, rfl⟩⟩
               refine ⟨_, rfl, ?_⟩
               have p18 : 0 ≤ ((rd t283 x21_2) : Int) := zd
               have q18 : ((rd t283 x21_2) : Int) < ((x3_2.length : Int) : Int) := zd
               obtain ⟨go18, co18, eo18, gb18, gl18, cl18, HG18⟩ := Kd.R_form HO_3.out (by omega)
               (first | cases eo18 | (injection eo18 with ea_ en_ ec_; (first | subst ea_ | (injection ea_ with ea_; subst ea_)); subst ec_; clear en_))
               have GB18 := zA gb18
               have GG18 := zA HG18
               clear gb18 gl18 HG18
               (first | simp only [add_plain] at hx287_0 | skip)
               obtain ⟨hx18_0, hf18_0⟩ := Kd.R_celln 0 HO_3.out ((rd t283 x21_2) : Int) p18 q18
               replace p18 := eq_true p18
               replace q18 := eq_true q18
               have HP21 := Kd.R_putn HO_3.out ((rd t283 x21_2) : Int) (Go.bits .or .i64 (rd x3_2 (rd t283 x21_2)) t288)
               rw [← Ny289.out] at HP21
               have HQ21 := zA HP21
               clear HP21
               refine hK.out _ _ (hHeld) (fun hHeld => ?_)
               clear hK K
               refine norm_ (a' := ?_) ?_ ?_
               rotate_left
               ·show Act.put _ (some 30) _ = _
                simp only [Act.put, zL, zM, zN, i64_w, i32_w]
                rfl
               refine zp 6 (some 31) #[true, true, true, true, true, true, true, false, false] HT_.out ?_
               refine zp 7 (some 32) #[true, true, true, true, true, true, true, true, false] HT_.out ?_
               refine last_ (i := 8) (N := none) #[true, true, true, true, true, true, true, true, true] rfl rfl (one_of HT_.out (by kernel_rfl)) (by decide) (fun K hK => ?_)
               refine skip_ (w1 := ?_) (by rfl) rfl ?_ ?_
               rotate_left
               ·go_simp
                rfl
               refine hK.out _ _ ?_
               clear hK K
               refine done_ (done_of HT_.out (by kernel_rfl)) ?_
               try go_wp2
               go_roundg k2
               case measure => have := HK1.out; have := HK2.out; omega
               case rel => exact ⟨(y289), (wrap64 (x21_2 + 1)), zs, H', ⟨by have := HK1.out; have := HK2.out; omega⟩, ⟨zP HQ21.out⟩, ⟨by (with_reducible repeat (first | apply zF | apply zG | apply zH)); exact kA (kY (p := ⟨go18, ((rd t283 x21_2) : Int).toNat, none⟩) (kA HO_19.out (fun k_ hk => (⟨hk, fun e_ => hk (by rw [e_]; rfl)⟩ : _ ∧ k_ ≠ go18))) (fun _ hk => hk.2) (.int .i64 (Go.bits .or .i64 (rd x3_2 (rd t283 x21_2)) t288))) (fun _ hk => hk.1)⟩, ⟨zT HB.out GB18.out⟩⟩
              rw [if_neg c16] at H
              exact absurd H (by simp)
             rw [if_neg c15] at H
             exact absurd H (by simp)
            rw [if_neg c14] at H
            exact absurd H (by simp)
           rw [if_neg c13] at H
           exact absurd H (by simp)
          rw [if_neg c12] at H
          have c12b0 : decide (x21_2 < (t283.length : Int)) = false := decide_eq_false c12
          clear c12
          have H' := zA H
          clear H
          go_wp2
          go_roundg k2
          case measure => have := HK1.out; have := HK2.out; omega
          case rel => exact ⟨(x3_2), (wrap64 (x13_1 + 1)), zs, H', ⟨by have := HK1.out; have := HK2.out; omega⟩, ⟨zPM HO_3.out (fun _ hk => trivial)⟩, ⟨zQ HB.out⟩⟩
       rw [if_neg c8] at H
       exact absurd H (by simp)
      rw [if_neg c7] at H
      exact absurd H (by simp)
     rw [if_neg c6] at H
     have c6b0 : decide (x13_1 < (l0.length : Int)) = false := decide_eq_false c6
     clear c6
     obtain rfl := Option.some.inj H
     go_wp2
     go_ret
     exact ⟨_, zr, zP HO_3.out, zQ HB.out⟩
  rw [if_neg c3] at H
  exact absurd H (by simp)
 rw [if_neg c2] at H
 exact absurd H (by simp)

/-! ### impl_has: function 159 -/
def impl_has.f (a0 : Int) (a1 : Int) : Option (Bool) := if 0 ≤ a1 then (some ((Go.bits .and .i64 (shr .i64 a0 a1) 1) == 1)) else (none)
set_option maxHeartbeats 8000000 in
set_option maxRecDepth 100000 in
theorem impl_has.calls (a0 : Int) (a1 : Int) (r : Bool) (w : World) (h : impl_has.f a0 a1 = some r) :
  Calls Tryd.prog 159 #[.int .i64 a0, .int .i64 a1] w fun e w' => e = .returned (.bool r) ∧ Drawn0 w w' := by
 have H := h
 unfold impl_has.f at H
 clear h
 by_cases c3 : 0 ≤ a1
 ·rw [if_pos c3] at H
  have c3b0 := eq_true c3
  have c3b1 : decide (0 ≤ a1) = true := decide_eq_true c3
  clear c3
  obtain ⟨ji4, hji4⟩ : ∃ j_ : Int, (shr .i64 a0 a1) = j_ := ⟨_, rfl⟩
  replace H : (some ((Go.bits .and .i64 (ji4) 1) == 1)) = some r := by first | (rw [hji4] at H; exact H) | (simp only [hji4] at H ⊢; exact H)
  have hji4_ : (a0 / 2 ^ min a1.toNat 64) = ji4 := hji4
  have hji4z : a1 ≤ 64 → (a0 / 2 ^ a1.toNat) = ji4 := shr_small hji4
  obtain rfl := Option.some.inj H
  go_enter Tryd.func159, Tryd.ntmps159
  go_wp2
  go_ret
  exact ⟨by first | rfl | (simp; done) | (simp only [← hji4] <;> (first | rfl | simp)) | (simp [*]; done), by repeat (first | exact Drawn0.refl _ | apply Drawn0.step)⟩
 rw [if_neg c3] at H
 exact absurd H (by simp)

/-! ### impl_IsAlphabet: function 110 -/
mutual
def impl_IsAlphabet.j0 : Nat → Bool → Int → List Int → Option (Bool)
 | 0, _, _, _ => none
 | k + 1, x22, x291000, x291001 => if x22 = true then (some false) else ((impl_converse.f k x291001).bind fun t294 => (impl_IsAlphabet.l0 k t294 (t294.length : Int) 0 x291000 x291001))
def impl_IsAlphabet.l0 : Nat → List Int → Int → Int → Int → List Int → Option (Bool)
 | 0, _, _, _, _, _ => none
 | k + 1, x25, x26, x27, x291000, x291001 => if x27 < x26 then (if 0 ≤ x27 then (if x27 < (x25.length : Int) then (if x27 < (x291001.length : Int) then (if (rd x25 x27) = (rd x291001 x27) then ((impl_has.f (rd x25 x27) x27).bind fun t299 => (if t299 = true then (impl_IsAlphabet.l0 k x25 x26 (wrap64 (x27 + 1)) x291000 x291001) else (some false))) else (some false)) else (none)) else (none)) else (none)) else (some true)
end
def impl_IsAlphabet.f (k : Nat) (a0_0 : Int) (l0_1 : List Int) : Option (Bool) := (impl_inRange.f a0_0 0 8).bind fun t291 => (if t291 = true then ((impl_length_int64.f l0_1).bind fun t292 => (if t292 = a0_0 then ((impl_IsRelation.f l0_1).bind fun t293 => (impl_IsAlphabet.j0 k (!t293) a0_0 l0_1)) else (impl_IsAlphabet.j0 k true a0_0 l0_1))) else (impl_IsAlphabet.j0 k true a0_0 l0_1))

def impl_IsAlphabet.T1 : Bool × List (List Nat × List Nat) := (true, [([], []), ([0], [0]), ([1], [1]), ([2], [2]), ([3, 2], [3]), ([4], [4]), ([5, 4], [4, 5]), ([6, 4, 4], [4, 6]), ([4], [4]), ([8, 4], [4, 8]), ([7, 9, 4], [4, 7, 9]), ([4, 10], [4, 10]), ([11, 7], [11]), ([12], [12]), ([13, 12], [12, 13]), ([14, 12, 12], [12, 14]), ([15, 12], [12, 15]), ([12, 16], [12, 16])])
def impl_IsAlphabet.B1 : List Nat := [0, 1, 3, 7, 15, 31, 63, 127, 31, 287, 1023, 2047, 4095, 8191, 16383, 32767, 65535, 131071]
theorem impl_IsAlphabet.tab1 : rtab .any (opsOf Tryd.f110 1) = impl_IsAlphabet.T1 := by kernel_rfl
theorem impl_IsAlphabet.bits1 : waitsOk impl_IsAlphabet.T1.2 impl_IsAlphabet.B1 = true := by kernel_rfl
set_option maxHeartbeats 8000000 in
set_option maxRecDepth 100000 in
theorem impl_IsAlphabet.calls (k : Nat) (a0_0 : Int) (A0_1 : Option Addr) (c0_1 : Nat) (l0_1 : List Int) (r : Bool) (w : World) (hr0_1 : Kd.C (Kd.int .i64) w A0_1 l0_1.length l0_1) (hc0_1 : l0_1.length ≤ c0_1) (hT : TabW w) (h : impl_IsAlphabet.f k a0_0 l0_1 = some r) :
  Calls Tryd.prog 110 #[.agg #[.int .i64 a0_0, .slice A0_1 l0_1.length c0_1]] w fun e w' => e = .returned (.bool r) ∧ Below w.heap.size w w' := by
 have hu29 := Tryd.underlying29
 have HT := zA hT
 clear hT
 have HR0_1 := zA hr0_1
 have HC0_1 := zA hc0_1
 clear hr0_1 hc0_1
 have HB := zA (kW w.heap.size w)
 have H := h
 unfold impl_IsAlphabet.f at H
 clear h
 have HC2 := zA H
 clear H
 go_enter Tryd.func110, Tryd.ntmps110
 go_upto_region 1 with (first | (refine zBE 1 #[.int .i64 a0_0, .slice A0_1 l0_1.length c0_1] 29 ?_; intro gb290 hg w3 hbox hb; have BK290 := zA (hbox); have GW290 := zA (zBH hg HB.out); have GE290 := zA (zBH hg HB.out); replace HB := zA (kQ (zQ HB.out) hb); clear hb hbox hg))
 (try simp only [Act.put, zL, zM, zN])
 go_cut [22] (fun v22 wc => ∃ (kq : Nat) (x22_1 : Bool), v22 = .bool x22_1 ∧ Aside0 (impl_IsAlphabet.j0 kq x22_1 a0_0 l0_1 = some r) ∧ Aside0 (kq ≤ k) ∧ Aside0 (wc.heap[gb290]? = some (.cells #[.int .i64 a0_0, (.slice A0_1 l0_1.length c0_1)] 29 (0, 0))) ∧ Aside0 (Below w.heap.size w wc))
 case first =>
  have H := HC2.out
  clear HC2
  obtain ⟨t291, A4, H⟩ := zb H
  try dsimp only at H
  by_cases c5 : t291 = true
  ·subst c5
   rw [if_pos rfl] at H
   obtain ⟨t292, A6, H⟩ := zb H
   try dsimp only at H
   by_cases c7 : t292 = a0_0
   ·rw [if_pos c7] at H
    obtain ⟨c7b0, c7b1⟩ := zT1 c7
    clear c7
    (first | rw [c7b0] | (simp only [i64_w, i32_w]; rw [c7b0]) | skip)
    obtain ⟨t293, A8, H⟩ := zb H
    try dsimp only at H
    have H' := zA H
    clear H
    try go_wp2
    replace BK290 := zA (zK BK290.out)
    replace HB := zA (zD HB.out)
    refine start_ (n := 18) (S := fun w' => w'.cell? ⟨gb290, 0, none⟩ = some (.int .i64 a0_0) ∧ w'.cell? ⟨gb290, 1, none⟩ = some (.slice A0_1 l0_1.length c0_1)) (ds := []) #[false, false, false, false, false, false, false, false, false, false, false, false, false, false, false, false, false, false] (by kernel_rfl) rfl rfl ⟨(kV BK290.out 0).trans rfl, (kV BK290.out 1).trans rfl⟩ (fun hHeld => ?_); refine with_tabW impl_IsAlphabet.tab1 impl_IsAlphabet.bits1 (fun HT_ HW_ => ?_)
    generalize w3.drew = w9 at BK290 HB hHeld ⊢
    refine zp 0 (some 5) #[true, false, false, false, false, false, false, false, false, false, false, false, false, false, false, false, false, false] HT_.out ?_
    refine zc 1 (some 6) #[true, true, false, false, false, false, false, false, false, false, false, false, false, false, false, false, false, false] HT_.out HW_.out hHeld ?_
    refine one_ (i := 2) (N := some 7) #[true, true, true, false, false, false, false, false, false, false, false, false, false, false, false, false, false, false] rfl rfl (one_of HT_.out (by kernel_rfl)) (by decide) (fun K hK => ?_)
    refine goes_ Tryd.func111 (by kernel_rfl) rfl #[.int .i64 a0_0, .int .i64 0, .int .i64 8] (by rfl) rfl rfl zg ?_
    with_reducible refine (impl_inRange.calls a0_0 0 8 true _ A4.out).mono ?_
    rintro e w' ⟨rfl, ⟨nd, rfl⟩⟩
    refine ⟨_, rfl, ?_⟩
    refine hK.out _ _ ⟨(kV BK290.out 0).trans rfl, (kV BK290.out 1).trans rfl⟩ (fun hHeld => ?_)
    clear hK K
    refine norm_ (a' := ?_) ?_ ?_
    rotate_left
    ·show Act.put _ (some 7) _ = _
     simp only [Act.put, zL, zM, zN, i64_w, i32_w]
     rfl
    refine zp 3 (some 8) #[true, true, true, true, false, false, false, false, false, false, false, false, false, false, false, false, false, false] HT_.out ?_
    refine zp 4 (some 9) #[true, true, true, true, true, false, false, false, false, false, false, false, false, false, false, false, false, false] HT_.out ?_
    refine zp 5 (some 10) #[true, true, true, true, true, true, false, false, false, false, false, false, false, false, false, false, false, false] HT_.out ?_
    refine zp 8 (some 13) #[true, true, true, true, true, true, false, false, true, false, false, false, false, false, false, false, false, false] HT_.out ?_
    refine zc 6 (some 11) #[true, true, true, true, true, true, true, false, true, false, false, false, false, false, false, false, false, false] HT_.out HW_.out hHeld ?_
    refine zc 9 (some 14) #[true, true, true, true, true, true, true, false, true, true, false, false, false, false, false, false, false, false] HT_.out HW_.out hHeld ?_
    refine one_ (i := 7) (N := some 12) #[true, true, true, true, true, true, true, true, true, true, false, false, false, false, false, false, false, false] rfl rfl (one_of HT_.out (by kernel_rfl)) (by decide) (fun K hK => ?_)
    refine goes_ Tryd.func119 (by kernel_rfl) rfl #[.slice A0_1 l0_1.length c0_1] (by rfl) rfl rfl zg ?_
    with_reducible refine (impl_length_int64.calls _ _ l0_1 t292 _ ?side1 ?side2 A6.out).mono ?_
    (case side1 => exact zS (kO HR0_1.out (zT HB.out GE290.out)))
    (case side2 => exact HC0_1.out)
    rintro e w' ⟨rfl, ⟨nd, rfl⟩⟩
    refine ⟨_, rfl, ?_⟩
    refine hK.out _ _ ⟨(kV BK290.out 0).trans rfl, (kV BK290.out 1).trans rfl⟩ (fun hHeld => ?_)
    clear hK K
    refine norm_ (a' := ?_) ?_ ?_
    rotate_left
    ·show Act.put _ (some 12) _ = _
     simp only [Act.put, zL, zM, zN, i64_w, i32_w]
     rfl
    refine zp 10 (some 15) #[true, true, true, true, true, true, true, true, true, true, true, false, false, false, false, false, false, false] HT_.out ?_
    refine zp 11 (some 16) #[true, true, true, true, true, true, true, true, true, true, true, true, false, false, false, false, false, false] HT_.out ?_
    refine zp 12 (some 17) #[true, true, true, true, true, true, true, true, true, true, true, true, true, false, false, false, false, false] HT_.out ?_
    refine zp 13 (some 18) #[true, true, true, true, true, true, true, true, true, true, true, true, true, true, false, false, false, false] HT_.out ?_
    refine zc 14 (some 19) #[true, true, true, true, true, true, true, true, true, true, true, true, true, true, true, false, false, false] HT_.out HW_.out hHeld ?_
    refine one_ (i := 15) (N := some 20) #[true, true, true, true, true, true, true, true, true, true, true, true, true, true, true, true, false, false] rfl rfl (one_of HT_.out (by kernel_rfl)) (by decide) (fun K hK => ?_)
    refine goes_ Tryd.func123 (by kernel_rfl) rfl #[.slice A0_1 l0_1.length c0_1] (by rfl) rfl rfl zg ?_
    with_reducible refine (impl_IsRelation.calls _ _ l0_1 t293 _ ?side1 ?side2 A8.out).mono ?_
    (case side1 => exact zS (kO HR0_1.out (zT HB.out GE290.out)))
    (case side2 => exact HC0_1.out)
    rintro e w10 ⟨rfl, hb⟩
    refine ⟨_, rfl, ?_⟩
    replace BK290 := zA (zB1 BK290.out hb)
    replace HB := zA (kQ (zT HB.out GE290.out) hb)
    (try clear hb)
    (try clear hb2)
    (try clear hk)
    (try clear hi)
    (try clear hgw)
    refine hK.out _ _ ⟨(kV BK290.out 0).trans rfl, (kV BK290.out 1).trans rfl⟩ (fun hHeld => ?_)
    clear hK K
    refine norm_ (a' := ?_) ?_ ?_
    rotate_left
    ·show Act.put _ (some 20) _ = _
     simp only [Act.put, zL, zM, zN, i64_w, i32_w]
     rfl
    refine zp 16 (some 21) #[true, true, true, true, true, true, true, true, true, true, true, true, true, true, true, true, true, false] HT_.out ?_
    refine zp 17 (some 22) #[true, true, true, true, true, true, true, true, true, true, true, true, true, true, true, true, true, true] HT_.out ?_
    refine done_ (done_of HT_.out (by kernel_rfl)) ?_
    try go_wp2
    go_meet
    case rel => exact ⟨_, (!t293), zs, H', ⟨by first | omega | exact Nat.le_refl _⟩, ⟨zR BK290.out⟩, ⟨zT HB.out GE290.out⟩⟩
   rw [if_neg c7] at H
   obtain ⟨c7b0, c7b1⟩ := zT2 c7
   (first | rw [c7b0] | (simp only [i64_w, i32_w]; rw [c7b0]) | skip)
   have H' := zA H
   clear H
   try go_wp2
   replace BK290 := zA (zK BK290.out)
   replace HB := zA (zD HB.out)
   refine start_ (n := 18) (S := fun w' => w'.cell? ⟨gb290, 0, none⟩ = some (.int .i64 a0_0) ∧ w'.cell? ⟨gb290, 1, none⟩ = some (.slice A0_1 l0_1.length c0_1)) (ds := []) #[false, false, false, false, false, false, false, false, false, false, false, false, false, false, false, false, false, false] (by kernel_rfl) rfl rfl ⟨(kV BK290.out 0).trans rfl, (kV BK290.out 1).trans rfl⟩ (fun hHeld => ?_); refine with_tabW impl_IsAlphabet.tab1 impl_IsAlphabet.bits1 (fun HT_ HW_ => ?_)
   generalize w3.drew = w11 at BK290 HB hHeld ⊢
   refine zp 0 (some 5) #[true, false, false, false, false, false, false, false, false, false, false, false, false, false, false, false, false, false] HT_.out ?_
   refine zc 1 (some 6) #[true, true, false, false, false, false, false, false, false, false, false, false, false, false, false, false, false, false] HT_.out HW_.out hHeld ?_
   refine one_ (i := 2) (N := some 7) #[true, true, true, false, false, false, false, false, false, false, false, false, false, false, false, false, false, false] rfl rfl (one_of HT_.out (by kernel_rfl)) (by decide) (fun K hK => ?_)
   refine goes_ Tryd.func111 (by kernel_rfl) rfl #[.int .i64 a0_0, .int .i64 0, .int .i64 8] (by rfl) rfl rfl zg ?_
   with_reducible refine (impl_inRange.calls a0_0 0 8 true _ A4.out).mono ?_
   rintro e w' ⟨rfl, ⟨nd, rfl⟩⟩
   refine ⟨_, rfl, ?_⟩
   refine hK.out _ _ ⟨(kV BK290.out 0).trans rfl, (kV BK290.out 1).trans rfl⟩ (fun hHeld => ?_)
   clear hK K
   refine norm_ (a' := ?_) ?_ ?_
   rotate_left
   ·show Act.put _ (some 7) _ = _
    simp only [Act.put, zL, zM, zN, i64_w, i32_w]
    rfl
   refine zp 3 (some 8) #[true, true, true, true, false, false, false, false, false, false, false, false, false, false, false, false, false, false] HT_.out ?_
   refine zp 4 (some 9) #[true, true, true, true, true, false, false, false, false, false, false, false, false, false, false, false, false, false] HT_.out ?_
   refine zp 5 (some 10) #[true, true, true, true, true, true, false, false, false, false, false, false, false, false, false, false, false, false] HT_.out ?_
   refine zp 8 (some 13) #[true, true, true, true, true, true, false, false, true, false, false, false, false, false, false, false, false, false] HT_.out ?_
   refine zc 6 (some 11) #[true, true, true, true, true, true, true, false, true, false, false, false, false, false, false, false, false, false] HT_.out HW_.out hHeld ?_
   refine zc 9 (some 14) #[true, true, true, true, true, true, true, false, true, true, false, false, false, false, false, false, false, false] HT_.out HW_.out hHeld ?_
   refine one_ (i := 7) (N := some 12) #[true, true, true, true, true, true, true, true, true, true, false, false, false, false, false, false, false, false] rfl rfl (one_of HT_.out (by kernel_rfl)) (by decide) (fun K hK => ?_)
   refine goes_ Tryd.func119 (by kernel_rfl) rfl #[.slice A0_1 l0_1.length c0_1] (by rfl) rfl rfl zg ?_
   with_reducible refine (impl_length_int64.calls _ _ l0_1 t292 _ ?side1 ?side2 A6.out).mono ?_
   (case side1 => exact zS (kO HR0_1.out (zT HB.out GE290.out)))
   (case side2 => exact HC0_1.out)
   rintro e w' ⟨rfl, ⟨nd, rfl⟩⟩
   refine ⟨_, rfl, ?_⟩
   refine hK.out _ _ ⟨(kV BK290.out 0).trans rfl, (kV BK290.out 1).trans rfl⟩ (fun hHeld => ?_)
   clear hK K
   refine norm_ (a' := ?_) ?_ ?_
   rotate_left
   ·show Act.put _ (some 12) _ = _
    simp only [Act.put, zL, zM, zN, i64_w, i32_w]
    rfl
   refine zp 10 (some 15) #[true, true, true, true, true, true, true, true, true, true, true, false, false, false, false, false, false, false] HT_.out ?_
   refine zp 11 (some 16) #[true, true, true, true, true, true, true, true, true, true, true, true, false, false, false, false, false, false] HT_.out ?_
   refine zp 12 (some 17) #[true, true, true, true, true, true, true, true, true, true, true, true, true, false, false, false, false, false] HT_.out ?_
   refine zu 13 (some 18) #[true, true, true, true, true, true, true, true, true, true, true, true, true, true, false, false, false, false] HT_.out ?_
   refine zu 14 (some 19) #[true, true, true, true, true, true, true, true, true, true, true, true, true, true, true, false, false, false] HT_.out ?_
   refine zu 15 (some 20) #[true, true, true, true, true, true, true, true, true, true, true, true, true, true, true, true, false, false] HT_.out ?_
   refine zu 16 (some 21) #[true, true, true, true, true, true, true, true, true, true, true, true, true, true, true, true, true, false] HT_.out ?_
   refine zp 17 (some 22) #[true, true, true, true, true, true, true, true, true, true, true, true, true, true, true, true, true, true] HT_.out ?_
   refine done_ (done_of HT_.out (by kernel_rfl)) ?_
   try go_wp2
   go_meet
   case rel => exact ⟨_, (true), zs, H', ⟨by first | omega | exact Nat.le_refl _⟩, ⟨zR BK290.out⟩, ⟨zT HB.out GE290.out⟩⟩
  replace c5 := Bool.eq_false_iff.mpr c5
  subst c5
  rw [if_neg (show ¬ (false = true) by decide)] at H
  have H' := zA H
  clear H
  try go_wp2
  replace BK290 := zA (zK BK290.out)
  replace HB := zA (zD HB.out)
  refine start_ (n := 18) (S := fun w' => w'.cell? ⟨gb290, 0, none⟩ = some (.int .i64 a0_0) ∧ w'.cell? ⟨gb290, 1, none⟩ = some (.slice A0_1 l0_1.length c0_1)) (ds := []) #[false, false, false, false, false, false, false, false, false, false, false, false, false, false, false, false, false, false] (by kernel_rfl) rfl rfl ⟨(kV BK290.out 0).trans rfl, (kV BK290.out 1).trans rfl⟩ (fun hHeld => ?_); refine with_tabW impl_IsAlphabet.tab1 impl_IsAlphabet.bits1 (fun HT_ HW_ => ?_)
  generalize w3.drew = w12 at BK290 HB hHeld ⊢
  refine zp 0 (some 5) #[true, false, false, false, false, false, false, false, false, false, false, false, false, false, false, false, false, false] HT_.out ?_
  refine zc 1 (some 6) #[true, true, false, false, false, false, false, false, false, false, false, false, false, false, false, false, false, false] HT_.out HW_.out hHeld ?_
  refine one_ (i := 2) (N := some 7) #[true, true, true, false, false, false, false, false, false, false, false, false, false, false, false, false, false, false] rfl rfl (one_of HT_.out (by kernel_rfl)) (by decide) (fun K hK => ?_)
  refine goes_ Tryd.func111 (by kernel_rfl) rfl #[.int .i64 a0_0, .int .i64 0, .int .i64 8] (by rfl) rfl rfl zg ?_
  with_reducible refine (impl_inRange.calls a0_0 0 8 false _ A4.out).mono ?_
  rintro e w' ⟨rfl, ⟨nd, rfl⟩⟩
  refine ⟨_, rfl, ?_⟩
  refine hK.out _ _ ⟨(kV BK290.out 0).trans rfl, (kV BK290.out 1).trans rfl⟩ (fun hHeld => ?_)
  clear hK K
  refine norm_ (a' := ?_) ?_ ?_
  rotate_left
  ·show Act.put _ (some 7) _ = _
   simp only [Act.put, zL, zM, zN, i64_w, i32_w]
   rfl
  refine zp 3 (some 8) #[true, true, true, true, false, false, false, false, false, false, false, false, false, false, false, false, false, false] HT_.out ?_
  refine zp 4 (some 9) #[true, true, true, true, true, false, false, false, false, false, false, false, false, false, false, false, false, false] HT_.out ?_
  refine zu 5 (some 10) #[true, true, true, true, true, true, false, false, false, false, false, false, false, false, false, false, false, false] HT_.out ?_
  refine zu 6 (some 11) #[true, true, true, true, true, true, true, false, false, false, false, false, false, false, false, false, false, false] HT_.out ?_
  refine zu 7 (some 12) #[true, true, true, true, true, true, true, true, false, false, false, false, false, false, false, false, false, false] HT_.out ?_
  refine zu 8 (some 13) #[true, true, true, true, true, true, true, true, true, false, false, false, false, false, false, false, false, false] HT_.out ?_
  refine zu 9 (some 14) #[true, true, true, true, true, true, true, true, true, true, false, false, false, false, false, false, false, false] HT_.out ?_
  refine zu 10 (some 15) #[true, true, true, true, true, true, true, true, true, true, true, false, false, false, false, false, false, false] HT_.out ?_
  refine zp 11 (some 16) #[true, true, true, true, true, true, true, true, true, true, true, true, false, false, false, false, false, false] HT_.out ?_
  refine zp 12 (some 17) #[true, true, true, true, true, true, true, true, true, true, true, true, true, false, false, false, false, false] HT_.out ?_
  refine zu 13 (some 18) #[true, true, true, true, true, true, true, true, true, true, true, true, true, true, false, false, false, false] HT_.out ?_
  refine zu 14 (some 19) #[true, true, true, true, true, true, true, true, true, true, true, true, true, true, true, false, false, false] HT_.out ?_
  refine zu 15 (some 20) #[true, true, true, true, true, true, true, true, true, true, true, true, true, true, true, true, false, false] HT_.out ?_
  refine zu 16 (some 21) #[true, true, true, true, true, true, true, true, true, true, true, true, true, true, true, true, true, false] HT_.out ?_
  refine zp 17 (some 22) #[true, true, true, true, true, true, true, true, true, true, true, true, true, true, true, true, true, true] HT_.out ?_
  refine done_ (done_of HT_.out (by kernel_rfl)) ?_
  try go_wp2
  go_meet
  case rel => exact ⟨_, (true), zs, H', ⟨by first | omega | exact Nat.le_refl _⟩, ⟨zR BK290.out⟩, ⟨zT HB.out GE290.out⟩⟩
 case rest =>
  clear HC2
  try clear c1
  try clear c5
  try clear c7
  try clear c11
  try clear c12
  obtain ⟨kq, x22_1, rfl, HA, HJ1, BK290, HB⟩ := hcut
  cases kq with
  | zero => exact absurd HA.out (by simp [impl_IsAlphabet.j0])
  | succ kj1 =>
   have H := HA.out
   clear HA
   simp only [impl_IsAlphabet.j0] at H
   by_cases c13 : x22_1 = true
   ·subst c13
    rw [if_pos rfl] at H
    obtain rfl := Option.some.inj H
    go_wp2
    go_ret
    exact ⟨zr, zT HB.out GE290.out⟩
   replace c13 := Bool.eq_false_iff.mpr c13
   subst c13
   rw [if_neg (show ¬ (false = true) by decide)] at H
   obtain ⟨t294, A14, H⟩ := zb H
   try dsimp only at H
   have H' := zA H
   clear H
   obtain ⟨hcz15_0, hcz15_1, hfz15_0, hfz15_1⟩ := zB3 BK290.out
   go_wp2_with (first | (refine zO (some 25) Tryd.func141 #[.slice A0_1 l0_1.length c0_1] ?_; (with_reducible refine (impl_converse.calls kj1 _ _ l0_1 t294 _ ?side1 ?side2 ?side3 A14.out).mono ?_); (case side1 => exact zS (kO HR0_1.out HB.out)); (case side2 => exact HC0_1.out); (case side3 => exact TabW.below HT.out (zT HB.out GE290.out)); rintro e w16 ⟨v295, rfl, ho0, hb⟩; refine ⟨_, rfl, ?_⟩; have HO296 := zA (kI ho0 (kP (zT HB.out GE290.out))); replace BK290 := zA (zB1 BK290.out hb); replace HB := zA (kQ (zT HB.out GE290.out) hb); (try clear hb); (try clear ho0); obtain ⟨Ao17, co17, eo17⟩ := kM HO296.out; subst eo17))
   go_loopg [27] kj1 (fun kq v27 w' => ∃ (x27_2 : Int), v27 = .int .i64 x27_2 ∧ Aside0 (impl_IsAlphabet.l0 kq t294 (t294.length : Int) x27_2 a0_0 l0_1 = some r) ∧ Aside0 (kq ≤ kj1) ∧ Aside0 (Kd.R (Kd.int .i64) 2 w' w.heap.size (fun _ => True) (.slice Ao17 t294.length co17) t294) ∧ Aside0 (w'.heap[gb290]? = some (.cells #[.int .i64 a0_0, (.slice A0_1 l0_1.length c0_1)] 29 (0, 0))) ∧ Aside0 (Below w.heap.size w w'))
   case atStart => exact ⟨(0), zs, H', ⟨Nat.le_refl _⟩, ⟨zP HO296.out⟩, ⟨zR BK290.out⟩, ⟨zT HB.out GE290.out⟩⟩
   case round =>
    clear H'
    try clear c1
    try clear c5
    try clear c7
    try clear c11
    try clear c12
    try clear c13
    try clear c14
    try clear hcz15_0
    try clear hcz15_1
    try clear hfz15_0
    try clear hfz15_1
    obtain ⟨x27_2, rfl, HA, HK2, HO_25, BK290, HB⟩ := hrel
    cases gk with
    | zero => exact absurd HA.out (by simp [impl_IsAlphabet.l0])
    | succ k2 =>
     have H := HA.out
     clear HA
     simp only [impl_IsAlphabet.l0] at H
     by_cases c18 : x27_2 < (t294.length : Int)
     ·rw [if_pos c18] at H
      have c18b0 : decide (x27_2 < (t294.length : Int)) = true := decide_eq_true c18
      clear c18
      by_cases c19 : 0 ≤ x27_2
      ·rw [if_pos c19] at H
       have c19b0 : decide (0 ≤ x27_2) = true := decide_eq_true c19
       clear c19
       by_cases c20 : x27_2 < (t294.length : Int)
       ·rw [if_pos c20] at H
        have c20b0 : decide (x27_2 < (t294.length : Int)) = true := decide_eq_true c20
        clear c20
        by_cases c21 : x27_2 < (l0_1.length : Int)
        ·rw [if_pos c21] at H
         have c21b0 : decide (x27_2 < (l0_1.length : Int)) = true := decide_eq_true c21
         clear c21
         by_cases c22 : (rd t294 x27_2) = (rd l0_1 x27_2)
         ·rw [if_pos c22] at H
          obtain ⟨c22b0, c22b1⟩ := zT1 c22
          clear c22
          obtain ⟨t299, A23, H⟩ := zb H
          try dsimp only at H
          by_cases c24 : t299 = true
          ·subst c24
           rw [if_pos rfl] at H
           have H' := zA H
           clear H
           have p297 : 0 ≤ (x27_2 : Int) := zd
           have q297 : x27_2 < (t294.length : Int) := zd
           obtain ⟨ad297, e297, hx297_0⟩ := Kd.at_int (kB HO_25.out).2.2 x27_2 p297 q297
           cases e297
           replace p297 := eq_true p297
           replace q297 := eq_true q297
           obtain ⟨hcz25_0, hcz25_1, hfz25_0, hfz25_1⟩ := zB3 BK290.out
           have p298 : 0 ≤ (x27_2 : Int) := zd
           have q298 : x27_2 < (l0_1.length : Int) := zd
           obtain ⟨ad298, e298, hx298_0⟩ := Kd.at_int HR0_1.out x27_2 p298 q298
           cases e298
           replace hx298_0 := (HB.out.cell (jG w _ hx298_0)).trans hx298_0
           replace p298 := eq_true p298
           replace q298 := eq_true q298
           go_wp2_with (first | (go_at_call 159; (with_reducible refine (impl_has.calls (rd t294 x27_2) x27_2 true _ A23.out).mono ?_); rintro e w' ⟨rfl, ⟨nd, rfl⟩⟩))
           go_roundg k2
           case measure => have := HJ1.out; have := HK2.out; omega
           case rel => exact ⟨(wrap64 (x27_2 + 1)), zs, H', ⟨by have := HJ1.out; have := HK2.out; omega⟩, ⟨zP HO_25.out⟩, ⟨zR BK290.out⟩, ⟨zT HB.out GE290.out⟩⟩
          replace c24 := Bool.eq_false_iff.mpr c24
          subst c24
          rw [if_neg (show ¬ (false = true) by decide)] at H
          obtain rfl := Option.some.inj H
          have p297 : 0 ≤ (x27_2 : Int) := zd
          have q297 : x27_2 < (t294.length : Int) := zd
          obtain ⟨ad297, e297, hx297_0⟩ := Kd.at_int (kB HO_25.out).2.2 x27_2 p297 q297
          cases e297
          replace p297 := eq_true p297
          replace q297 := eq_true q297
          obtain ⟨hcz26_0, hcz26_1, hfz26_0, hfz26_1⟩ := zB3 BK290.out
          have p298 : 0 ≤ (x27_2 : Int) := zd
          have q298 : x27_2 < (l0_1.length : Int) := zd
          obtain ⟨ad298, e298, hx298_0⟩ := Kd.at_int HR0_1.out x27_2 p298 q298
          cases e298
          replace hx298_0 := (HB.out.cell (jG w _ hx298_0)).trans hx298_0
          replace p298 := eq_true p298
          replace q298 := eq_true q298
          go_wp2_with (first | (go_at_call 159; (with_reducible refine (impl_has.calls (rd t294 x27_2) x27_2 false _ A23.out).mono ?_); rintro e w' ⟨rfl, ⟨nd, rfl⟩⟩))
          go_ret
          exact ⟨zr, zT HB.out GE290.out⟩
         rw [if_neg c22] at H
         obtain ⟨c22b0, c22b1⟩ := zT2 c22
         obtain rfl := Option.some.inj H
         have p297 : 0 ≤ (x27_2 : Int) := zd
         have q297 : x27_2 < (t294.length : Int) := zd
         obtain ⟨ad297, e297, hx297_0⟩ := Kd.at_int (kB HO_25.out).2.2 x27_2 p297 q297
         cases e297
         replace p297 := eq_true p297
         replace q297 := eq_true q297
         obtain ⟨hcz27_0, hcz27_1, hfz27_0, hfz27_1⟩ := zB3 BK290.out
         have p298 : 0 ≤ (x27_2 : Int) := zd
         have q298 : x27_2 < (l0_1.length : Int) := zd
         obtain ⟨ad298, e298, hx298_0⟩ := Kd.at_int HR0_1.out x27_2 p298 q298
         cases e298
         replace hx298_0 := (HB.out.cell (jG w _ hx298_0)).trans hx298_0
         replace p298 := eq_true p298
         replace q298 := eq_true q298
         go_wp2
         go_ret
         exact ⟨zr, zT HB.out GE290.out⟩
        rw [if_neg c21] at H
        exact absurd H (by simp)
       rw [if_neg c20] at H
       exact absurd H (by simp)
      rw [if_neg c19] at H
      exact absurd H (by simp)
     rw [if_neg c18] at H
     have c18b0 : decide (x27_2 < (t294.length : Int)) = false := decide_eq_false c18
     clear c18
     obtain rfl := Option.some.inj H
     go_wp2
     go_ret
     exact ⟨zr, zT HB.out GE290.out⟩

-- NOT PRINTED: function 189 (slices_IndexFunc_int64_int64_189)

-- NOT PRINTED: function 147 (slices_ContainsFunc_int64_int64_147)

/-! ### impl_isWord: function 149 -/
def impl_isWord.f (a0_0 : Int) (l0_1 : List Int) (l1 : List Int) : Option (Bool) := if (l1.length : Int) ≤ 24 then ((impl_allIn.f l1 0 (wrap64 (a0_0 - 1))).bind fun t301 => (some t301)) else (some false)
set_option maxHeartbeats 8000000 in
set_option maxRecDepth 100000 in
theorem impl_isWord.calls (a0_0 : Int) (A0_1 : Option Addr) (c0_1 : Nat) (l0_1 : List Int) (A1 : Option Addr) (c1 : Nat) (l1 : List Int) (r : Bool) (w : World) (hr0_1 : Kd.C (Kd.int .i64) w A0_1 l0_1.length l0_1) (hc0_1 : l0_1.length ≤ c0_1) (hr1 : Kd.C (Kd.int .i64) w A1 l1.length l1) (hc1 : l1.length ≤ c1) (h : impl_isWord.f a0_0 l0_1 l1 = some r) :
  Calls Tryd.prog 149 #[.agg #[.int .i64 a0_0, .slice A0_1 l0_1.length c0_1], .slice A1 l1.length c1] w fun e w' => e = .returned (.bool r) ∧ Below w.heap.size w w' := by
 have hu29 := Tryd.underlying29
 have HR0_1 := zA hr0_1
 have HC0_1 := zA hc0_1
 clear hr0_1 hc0_1
 have HR1 := zA hr1
 have HC1 := zA hc1
 clear hr1 hc1
 have HB := zA (kW w.heap.size w)
 have H := h
 unfold impl_isWord.f at H
 clear h
 by_cases c3 : (l1.length : Int) ≤ 24
 ·rw [if_pos c3] at H
  have c3b0 : decide ((l1.length : Int) ≤ 24) = true := decide_eq_true c3
  have c3b1 : decide (l1.length ≤ 24) = true := decide_eq_true (by omega)
  clear c3
  obtain ⟨t301, A4, H⟩ := zb H
  try dsimp only at H
  obtain rfl := Option.some.inj H
  go_enter Tryd.func149, Tryd.ntmps149
  go_wp2_with (first | (refine zBE 2 #[.int .i64 a0_0, .slice A0_1 l0_1.length c0_1] 29 ?_; intro gb300 hg w5 hbox hb; have BK300 := zA (hbox); have GW300 := zA (zBH hg HB.out); have GE300 := zA (zBH hg HB.out); replace HB := zA (kQ (zQ HB.out) hb); clear hb hbox hg; obtain ⟨hcz6_0, hcz6_1, hfz6_0, hfz6_1⟩ := zB3 BK300.out) | (go_at_call 176; (with_reducible refine (impl_allIn.calls _ _ l1 0 (wrap64 (a0_0 - 1)) t301 _ ?side1 ?side2 A4.out).mono ?_); (case side1 => exact zS (kO HR1.out HB.out)); (case side2 => exact HC1.out); rintro e w7 ⟨rfl, hb⟩; replace BK300 := zA (zB1 BK300.out hb); replace HB := zA (kQ (zT HB.out GE300.out) hb); (try clear hb)))
  go_ret
  exact ⟨zr, zT HB.out GE300.out⟩
 rw [if_neg c3] at H
 have c3b0 : decide ((l1.length : Int) ≤ 24) = false := decide_eq_false c3
 have c3b1 : decide (l1.length ≤ 24) = false := decide_eq_false (by omega)
 clear c3
 obtain rfl := Option.some.inj H
 go_enter Tryd.func149, Tryd.ntmps149
 go_wp2_with (first | (refine zBE 2 #[.int .i64 a0_0, .slice A0_1 l0_1.length c0_1] 29 ?_; intro gb300 hg w8 hbox hb; have BK300 := zA (hbox); have GW300 := zA (zBH hg HB.out); have GE300 := zA (zBH hg HB.out); replace HB := zA (kQ (zQ HB.out) hb); clear hb hbox hg))
 go_ret
 exact ⟨zr, zT HB.out GE300.out⟩

/-! ### impl_checkWords: function 76: a contract of our own -/
def wordB (n : Int) (w : List Int) : Bool := decide (w.length ≤ 24) && w.all fun x => decide (0 ≤ x ∧ x ≤ wrap64 (n - 1))
def impl_checkWords.f (k : Nat) (a0_0 : Int) (l0_1 : List Int) (l1 : List (List Int)) : Option Int :=
 (impl_IsAlphabet.f k a0_0 l0_1).bind fun t => some (if t = true then (if l1.all (wordB a0_0) = true then 0 else 2) else 1)
theorem isWord_some (n : Int) (D w : List Int) : impl_isWord.f n D w = some (wordB n w) := by
 unfold impl_isWord.f wordB
 by_cases h : w.length ≤ 24
 ·rw [if_pos (by omega)]
  simp [h, impl_allIn.f]
 rw [if_neg (by omega)]
 simp [h]
theorem checkWords_pred (n : Int) (A : Option Addr) (c : Nat) (D : List Int) (B : Nat) (w : World) (hB : B < w.heap.size) (hD : (Kd.int .i64).C w A D.length D) (hc : D.length ≤ c)
  (h0 : w.cell? ⟨B, 0, none⟩ = some (.int .i64 n)) (h1 : w.cell? ⟨B, 1, none⟩ = some (.slice A D.length c)) :
  PredL 148 #[.pointer (some ⟨B, 0, none⟩)] (fun x => !wordB n x) w := fun W A2 c2 x hb hx hcx => by
 have k0 : W.cell? ⟨B, 0, none⟩ = some (.int .i64 n) := (hb.cell (p := ⟨B, 0, none⟩) hB).trans h0
 have k1 : W.cell? ⟨B, 1, none⟩ = some (.slice A D.length c) := (hb.cell (p := ⟨B, 1, none⟩) hB).trans h1
 have hcall := impl_isWord.calls n A c D A2 c2 x (wordB n x) W (kO hD hb) hc hx hcx (isWord_some n D x)
 replace hcall := zA hcall
 clear h0 h1 hb hx hcx hD hc
 show Calls Tryd.prog 148 #[.slice A2 x.length c2, .pointer (some ⟨B, 0, none⟩)] W fun e W' => e = .returned (.bool (!wordB n x)) ∧ Below W.heap.size W W'
 generalize wordB n x = b at hcall ⊢
 have hu := Tryd.underlying29
 go_enter Tryd.func148, Tryd.ntmps148
 go_wp2_with fail
 refine hcall.out.mono ?_
 rintro e w' ⟨rfl, hb⟩
 replace hb := zA hb
 clear hcall
 go_wp2
 go_ret
 exact ⟨rfl, hb.out⟩
theorem impl_checkWords.calls (k : Nat) (a0_0 : Int) (A0_1 : Option Addr) (c0_1 : Nat) (l0_1 : List Int) (A1 : Option Addr) (c1 : Nat) (l1 : List (List Int)) (r : Int) (w : World) (hr0_1 : Kd.C (Kd.int .i64) w A0_1 l0_1.length l0_1) (hc0_1 : l0_1.length ≤ c0_1)
  (hr1 : Kd.C (Kd.slice 22 (Kd.int .i64)) w A1 l1.length l1) (hc1 : l1.length ≤ c1) (hT : TabW w) (h : impl_checkWords.f k a0_0 l0_1 l1 = some r) :
  Calls Tryd.prog 76 #[.agg #[.int .i64 a0_0, .slice A0_1 l0_1.length c0_1], .slice A1 l1.length c1] w fun e w' => e = .returned (.int .i64 r) ∧ Below w.heap.size w w' := by
 obtain ⟨t, ht, hr⟩ := Option.bind_eq_some_iff.mp h
 clear h
 have hW : Below w.heap.size w (w.alloc (.cells #[.int .i64 a0_0, .slice A0_1 l0_1.length c0_1] 29)) := zB (kW _ w) _
 have hal := zA (impl_IsAlphabet.calls k a0_0 A0_1 c0_1 l0_1 t (w.alloc (.cells #[.int .i64 a0_0, .slice A0_1 l0_1.length c0_1] 29)) (kO hr0_1 hW) hc0_1 (hT.below hW) ht)
 have eg : ∀ args w, (callFunc 148 args).run Tryd.prog w = .ok (.enter 148 args) w := enters_fn Tryd.func148 (by kernel_rfl) rfl
 have hcon := zA (fun (W : World) (hb : Below (w.alloc (.cells #[.int .i64 a0_0, .slice A0_1 l0_1.length c0_1] 29)).heap.size (w.alloc (.cells #[.int .i64 a0_0, .slice A0_1 l0_1.length c0_1] 29)) W) =>
  containsFuncL_any A1 c1 l1 148 #[.pointer (some ⟨w.heap.size, 0, none⟩)] (fun x => !wordB a0_0 x) W eg
  (checkWords_pred a0_0 A0_1 c0_1 l0_1 w.heap.size W (Nat.lt_of_lt_of_le (by simp) hb.size) (kO (kO hr0_1 hW) hb) hc0_1 ((hb.cell (p := ⟨w.heap.size, 0, none⟩) (by simp)).trans (by simp)) ((hb.cell (p := ⟨w.heap.size, 1, none⟩) (by simp)).trans (by simp))) (kO (kO hr1 hW) hb))
 replace hW := zA hW
 clear ht eg hr0_1 hr1 hc1 hc0_1 hT
 have hany : (l1.any fun x => !wordB a0_0 x) = !(l1.all (wordB a0_0)) := by rw [List.all_eq_not_any_not]; simp
 rw [hany] at hcon
 clear hany
 generalize l1.all (wordB a0_0) = b at hcon hr
 have hu := Tryd.underlying29
 cases t with
 | false =>
  rw [if_neg (by decide)] at hr
  obtain rfl := Option.some.inj hr
  clear hr
  go_enter Tryd.func76, Tryd.ntmps76
  go_wp2_with fail
  refine hal.out.mono ?_
  rintro e w' ⟨rfl, hb⟩
  replace hb := zA hb
  clear hal hcon
  go_wp2
  go_ret
  exact ⟨rfl, kQ hW.out hb.out⟩
 | true =>
  rw [if_pos rfl] at hr
  cases b with
  | false =>
   rw [if_neg (by decide)] at hr
   obtain rfl := Option.some.inj hr
   clear hr
   go_enter Tryd.func76, Tryd.ntmps76
   go_wp2_with fail
   refine hal.out.mono ?_
   rintro e w' ⟨rfl, hb⟩
   replace hb := zA hb
   clear hal
   go_wp2_with fail
   refine (hcon.out _ hb.out).mono ?_
   rintro e w'' ⟨rfl, hb2⟩
   replace hb2 := zA hb2
   clear hcon
   go_wp2
   go_ret
   exact ⟨rfl, kQ (kQ hW.out hb.out) hb2.out⟩
  | true =>
   rw [if_pos rfl] at hr
   obtain rfl := Option.some.inj hr
   clear hr
   go_enter Tryd.func76, Tryd.ntmps76
   go_wp2_with fail
   refine hal.out.mono ?_
   rintro e w' ⟨rfl, hb⟩
   replace hb := zA hb
   clear hal
   go_wp2_with fail
   refine (hcon.out _ hb.out).mono ?_
   rintro e w'' ⟨rfl, hb2⟩
   replace hb2 := zA hb2
   clear hcon
   go_wp2
   go_ret
   exact ⟨rfl, kQ (kQ hW.out hb.out) hb2.out⟩

/-! ### impl_Alphabet_ties: function 77 -/
def impl_Alphabet_ties.f (a0_0 : Int) (l0_1 : List Int) : Option (List Int) := some l0_1
set_option maxHeartbeats 8000000 in
set_option maxRecDepth 100000 in
theorem impl_Alphabet_ties.calls (a0_0 : Int) (P0_1_ : Nat → Prop) (A0_1 : Option Addr) (c0_1 : Nat) (l0_1 : List Int) (r : List Int) (w : World) (hs0_1 : Kd.V (Kd.int .i64) 2 w w.heap.size (fun k_ => P0_1_ k_) (.slice A0_1 l0_1.length c0_1) l0_1) (h : impl_Alphabet_ties.f a0_0 l0_1 = some r) :
  Calls Tryd.prog 77 #[.agg #[.int .i64 a0_0, .slice A0_1 l0_1.length c0_1]] w fun e w' => ∃ v0_ : Value, e = .returned (v0_) ∧ Kd.V (Kd.int .i64) 2 w' w.heap.size (fun k_ => (P0_1_ k_ ∨ w.heap.size ≤ k_)) v0_ r ∧ Below w.heap.size w w' := by
 have hu29 := Tryd.underlying29
 have HO0_1 := zA (show Kd.V (Kd.int .i64) 2 w w.heap.size (fun k_ => (P0_1_ k_ ∨ w.heap.size ≤ k_)) (.slice A0_1 l0_1.length c0_1) l0_1 from kN hs0_1 (fun k_ hk => .inl hk))
 have HB := zA (kW w.heap.size w)
 have H := h
 unfold impl_Alphabet_ties.f at H
 clear h
 obtain rfl := Option.some.inj H
 go_enter Tryd.func77, Tryd.ntmps77
 go_wp2_with (first | (refine zBE 1 #[.int .i64 a0_0, .slice A0_1 l0_1.length c0_1] 29 ?_; intro gb302 hg w2 hbox hb; replace HO0_1 := zA (kG (jD (zPV HO0_1.out) gb302 (Nat.le_of_eq hg.symm)) hb); have BK302 := zA (hbox); have GW302 := zA (zBH hg HB.out); have GE302 := zA (zBH hg HB.out); replace HB := zA (kQ (zQ HB.out) hb); clear hb hbox hg; obtain ⟨hcz3_0, hcz3_1, hfz3_0, hfz3_1⟩ := zB3 BK302.out))
 go_ret
 exact ⟨_, zr, by (with_reducible repeat (first | apply Kd.V_alloc | apply Kd.V_drewN | apply Kd.V_drew)); exact kN HO0_1.out (fun _ hk => hk.1), zT HB.out GE302.out⟩

end Go.Proofs.YthgapkbkhoeleaaDoor.PAll
