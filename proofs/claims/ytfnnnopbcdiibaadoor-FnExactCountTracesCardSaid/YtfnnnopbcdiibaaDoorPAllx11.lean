-- Printed by a program of the session (wip/tools/pgen.py) out of the translation. Not trusted: Lean checks it.
import Derived.Test.YtfnnnopbcdiibaaDoorPAllx0
import Derived.Test.YtfnnnopbcdiibaaDoorPAllx1
namespace Go.Proofs.YtfnnnopbcdiibaaDoor.PAll
open Go.RowKit Go.Proofs.YtfnnnopbcdiibaaDoor.T Go.Proofs.YtfnnnopbcdiibaaDoorW.PrintWords Go.Proofs.YtfnnnopbcdiibaaDoorW.PrintLast Go.Proofs.YtfnnnopbcdiibaaDoorW.PrintMore
attribute [local go_sem] max2_int min2_int max_two min_two max_three min_three max_four min_four   -- for this text's walks alone
set_option linter.unusedVariables false
set_option linter.unusedSimpArgs false

-- NOT PRINTED: function 164 (impl_family_add)

-- NOT PRINTED: function 160 (impl_growCliques)

/-! ### impl_mutual: function 161 -/
def impl_mutual.l0 : Nat → List Int → List Int → Int → Int → Option (List Int)
 | 0, _, _, _, _ => none
 | k + 1, x0, x3, x8, x9 => if x9 < x8 then (if 0 ≤ x9 then (if x9 < (x3.length : Int) then (if x9 < (x0.length : Int) then ((impl_one.f x9).bind fun t1443 => (impl_mutual.l0 k x0 (x3.set (x9 : Int).toNat (Go.bits .and .i64 (rd x3 x9) (Go.bits .andNot .i64 (rd x0 x9) t1443))) x8 (wrap64 (x9 + 1)))) else (none)) else (none)) else (none)) else (some x3)
def impl_mutual.f (k : Nat) (l0 : List Int) : Option (List Int) := (impl_converse.f k l0).bind fun t1438 => (impl_mutual.l0 k l0 t1438 (t1438.length : Int) 0)

def impl_mutual.T5 : Bool × List (List Nat × List Nat) := (true, [([], []), ([], []), ([0, 1], [0, 1]), ([2], [2]), ([], []), ([], []), ([4, 5], [4, 5]), ([6], [6]), ([], []), ([8], [8]), ([7, 9], [7, 9]), ([3, 10], [3, 10]), ([0, 1, 0, 1, 2, 3, 4, 5, 6, 7, 8, 9, 10, 11], [0, 1]), ([12, 11, 9, 0, 1, 2, 3, 4, 5, 6, 7, 8, 9, 10, 11], [11, 12])])
def impl_mutual.B5 : List Nat := [0, 0, 3, 7, 0, 0, 48, 112, 0, 256, 1008, 2047, 4095, 8191]
theorem impl_mutual.tab5 : rtab .any (opsOf Tryd.f161 5) = impl_mutual.T5 := by kernel_rfl
theorem impl_mutual.bits5 : waitsOk impl_mutual.T5.2 impl_mutual.B5 = true := by kernel_rfl
set_option maxHeartbeats 8000000 in
set_option maxRecDepth 100000 in
theorem impl_mutual.calls (k : Nat) (A0 : Option Addr) (c0 : Nat) (l0 : List Int) (r : List Int) (w : World) (hr0 : Kd.C (Kd.int .i64) w A0 l0.length l0) (hc0 : l0.length ≤ c0) (hT : TabW w) (h : impl_mutual.f k l0 = some r) :
  Calls Tryd.prog 161 #[.slice A0 l0.length c0] w fun e w' => ∃ v0_ : Value, e = .returned (v0_) ∧ Kd.R (Kd.int .i64) 2 w' w.heap.size (fun _ => True) v0_ r ∧ Below w.heap.size w w' := by
 have HT := zA hT
 clear hT
 have HR0 := zA hr0
 have HC0 := zA hc0
 clear hr0 hc0
 have HB := zA (kW w.heap.size w)
 have H := h
 unfold impl_mutual.f at H
 clear h
 obtain ⟨t1438, A2, H⟩ := zb H
 try dsimp only at H
 have H' := zA H
 clear H
 go_enter Tryd.func161, Tryd.ntmps161
 go_wp2_with (first | (refine zO (some 6) Tryd.func137 #[.slice A0 l0.length c0] ?_; (with_reducible refine (impl_converse.calls k _ _ l0 t1438 _ ?side1 ?side2 ?side3 A2.out).mono ?_); (case side1 => exact zS HR0.out); (case side2 => exact HC0.out); (case side3 => exact TabW.below HT.out (zQ HB.out)); rintro e w3 ⟨v1439, rfl, ho0, hb⟩; refine ⟨_, rfl, ?_⟩; have HO1440 := zA (kI ho0 (kP (zQ HB.out))); replace HB := zA (kQ (zQ HB.out) hb); (try clear hb); (try clear ho0); obtain ⟨Ao4, co4, eo4⟩ := kM HO1440.out; subst eo4))
 go_loopg [9] k (fun kq v9 w' => ∃ (x3_1 : List Int) (x9_1 : Int), v9 = .int .i64 x9_1 ∧ Aside0 (impl_mutual.l0 kq l0 x3_1 (t1438.length : Int) x9_1 = some r) ∧ Aside0 (kq ≤ k) ∧ Aside0 (Kd.R (Kd.int .i64) 2 w' w.heap.size (fun _ => True) (.slice Ao4 t1438.length co4) x3_1) ∧ Aside0 (Below w.heap.size w w'))
 case atStart => exact ⟨(t1438), (0), zs, H', ⟨Nat.le_refl _⟩, ⟨zP HO1440.out⟩, ⟨zQ HB.out⟩⟩
 case round =>
  clear H'
  try clear c1
  obtain ⟨x3_1, x9_1, rfl, HA, HK1, HO_3, HB⟩ := hrel
  have hl3_1 := (kB HO_3.out).1
  rw [hl3_1] at HO_3
  (try simp only [hl3_1])
  cases gk with
  | zero => exact absurd HA.out (by simp [impl_mutual.l0])
  | succ k1 =>
   have H := HA.out
   clear HA
   simp only [impl_mutual.l0] at H
   by_cases c5 : x9_1 < (t1438.length : Int)
   ·rw [if_pos c5] at H
    have c5b0 : decide (x9_1 < (t1438.length : Int)) = true := decide_eq_true c5
    (try (have c5b0h0_ := c5b0; rw [hl3_1] at c5b0h0_))
    clear c5
    by_cases c6 : 0 ≤ x9_1
    ·rw [if_pos c6] at H
     have c6b0 : decide (0 ≤ x9_1) = true := decide_eq_true c6
     clear c6
     by_cases c7 : x9_1 < (x3_1.length : Int)
     ·rw [if_pos c7] at H
      have c7b0 : decide (x9_1 < (x3_1.length : Int)) = true := decide_eq_true c7
      (try (have c7b0h0_ := c7b0; rw [hl3_1] at c7b0h0_))
      clear c7
      by_cases c8 : x9_1 < (l0.length : Int)
      ·rw [if_pos c8] at H
       have c8b0 : decide (x9_1 < (l0.length : Int)) = true := decide_eq_true c8
       (try (have c8b0h0_ := c8b0; rw [hl3_1] at c8b0h0_))
       clear c8
       obtain ⟨t1443, A9, H⟩ := zb H
       try dsimp only at H
       obtain ⟨y1444, hy1444⟩ : ∃ y_ : List Int, y_ = (x3_1.set (x9_1 : Int).toNat (Go.bits .and .i64 (rd x3_1 x9_1) (Go.bits .andNot .i64 (rd l0 x9_1) t1443))) := ⟨_, rfl⟩
       replace H : (impl_mutual.l0 k1 l0 y1444 (t1438.length : Int) (wrap64 (x9_1 + 1))) = some r := zy hy1444 H
       have Ny1444 := zA hy1444
       clear hy1444
       have H' := zA H
       clear H
       try go_wp2
       replace HO_3 := zA (zH HO_3.out)
       replace HB := zA (zD HB.out)
       have p1441 : 0 ≤ (x9_1 : Int) := zd
       have q1441 : x9_1 < (x3_1.length : Int) := zd
       obtain ⟨ad1441, e1441, hx1441_0⟩ := Kd.at_int (kB HO_3.out).2.2 x9_1 p1441 q1441
       cases e1441
       replace p1441 := eq_true p1441
       replace q1441 := eq_true q1441
       have p1442 : 0 ≤ (x9_1 : Int) := zd
       have q1442 : x9_1 < (l0.length : Int) := zd
       obtain ⟨ad1442, e1442, hx1442_0⟩ := Kd.at_int HR0.out x9_1 p1442 q1442
       have hw1442_0 := hx1442_0
       cases e1442
       replace hx1442_0 := (HB.out.cell (jG w _ hx1442_0)).trans hx1442_0
       replace p1442 := eq_true p1442
       replace q1442 := eq_true q1442
       refine start_ (n := 14) (S := fun w' => w'.cell? (ad1441.add (x9_1).toNat) = some (.int .i64 (rd x3_1 x9_1)) ∧ w'.cell? (ad1442.add (x9_1).toNat) = some (.int .i64 (rd l0 x9_1))) (ds := [13]) #[false, false, false, false, false, false, false, false, false, false, false, false, false, false] (by kernel_rfl) rfl rfl ⟨hx1441_0, (pw_cell_below HB.out hw1442_0)⟩ (fun hHeld => ?_); refine with_tabW impl_mutual.tab5 impl_mutual.bits5 (fun HT_ HW_ => ?_)
       generalize wr.drew = w11 at HO_3 HB hx1441_0 hx1442_0 hHeld ⊢
       refine zp 0 (some 12) #[true, false, false, false, false, false, false, false, false, false, false, false, false, false] HT_.out ?_
       refine zp 1 (some 13) #[true, true, false, false, false, false, false, false, false, false, false, false, false, false] HT_.out ?_
       refine zp 2 (some 14) #[true, true, true, false, false, false, false, false, false, false, false, false, false, false] HT_.out ?_
       refine zp 4 (some 16) #[true, true, true, false, true, false, false, false, false, false, false, false, false, false] HT_.out ?_
       refine zp 5 (some 17) #[true, true, true, false, true, true, false, false, false, false, false, false, false, false] HT_.out ?_
       refine zp 6 (some 18) #[true, true, true, false, true, true, true, false, false, false, false, false, false, false] HT_.out ?_
       refine zp 8 (some 20) #[true, true, true, false, true, true, true, false, true, false, false, false, false, false] HT_.out ?_
       refine zc 3 (some 15) #[true, true, true, true, true, true, true, false, true, false, false, false, false, false] HT_.out HW_.out hHeld ?_
       refine zc 7 (some 19) #[true, true, true, true, true, true, true, true, true, false, false, false, false, false] HT_.out HW_.out hHeld ?_
       refine one_ (i := 9) (N := some 21) #[true, true, true, true, true, true, true, true, true, true, false, false, false, false] rfl rfl (one_of HT_.out (by kernel_rfl)) (by decide) (fun K hK => ?_)
       refine goes_ Tryd.func67 (by kernel_rfl) rfl #[.int .i64 x9_1] (by rfl) rfl rfl zg ?_
       with_reducible refine (impl_one.calls x9_1 t1443 _ A9.out).mono ?_
       rintro e w' ⟨rfl, ⟨nd, rfl⟩⟩
       refine ⟨_, rfl, ?_⟩
       have p10 : 0 ≤ (x9_1 : Int) := zd
       have q10 : (x9_1 : Int) < ((x3_1.length : Int) : Int) := zd
       obtain ⟨go10, co10, eo10, gb10, gl10, cl10, HG10⟩ := Kd.R_form HO_3.out (by omega)
       (first | cases eo10 | (injection eo10 with ea_ en_ ec_; (first | subst ea_ | (injection ea_ with ea_; subst ea_)); subst ec_; clear en_))
       have GB10 := zA gb10
       have GG10 := zA HG10
       clear gb10 gl10 HG10
       (first | simp only [add_plain] at hx1441_0 | skip)
       obtain ⟨hx10_0, hf10_0⟩ := Kd.R_celln 0 HO_3.out (x9_1 : Int) p10 q10
       replace p10 := eq_true p10
       replace q10 := eq_true q10
       have HP12 := Kd.R_putn HO_3.out (x9_1 : Int) (Go.bits .and .i64 (rd x3_1 x9_1) (Go.bits .andNot .i64 (rd l0 x9_1) t1443))
       rw [← Ny1444.out] at HP12
       have HQ12 := zA HP12
       clear HP12
       refine hK.out _ _ ⟨hHeld.1, (pw_cell_below HB.out hw1442_0)⟩ (fun hHeld => ?_)
       clear hK K
       refine norm_ (a' := ?_) ?_ ?_
       rotate_left
       ·show Act.put _ (some 21) _ = _
        simp only [Act.put, zL, zM, zN, i64_w, i32_w]
        rfl
       refine zp 10 (some 22) #[true, true, true, true, true, true, true, true, true, true, true, false, false, false] HT_.out ?_
       refine zp 11 (some 23) #[true, true, true, true, true, true, true, true, true, true, true, true, false, false] HT_.out ?_
       refine zp 12 (some 24) #[true, true, true, true, true, true, true, true, true, true, true, true, true, false] HT_.out ?_
       refine last_ (i := 13) (N := none) #[true, true, true, true, true, true, true, true, true, true, true, true, true, true] rfl rfl (one_of HT_.out (by kernel_rfl)) (by decide) (fun K hK => ?_)
       refine skip_ (w1 := ?_) (by rfl) rfl ?_ ?_
       rotate_left
       ·go_simp
        rfl
       refine hK.out _ _ ?_
       clear hK K
       refine done_ (done_of HT_.out (by kernel_rfl)) ?_
       try go_wp2
       (try simp only [← hl3_1])
       go_roundg k1
       case measure => have := HK1.out; omega
       case rel => exact ⟨(y1444), (wrap64 (x9_1 + 1)), zs, H', ⟨by have := HK1.out; omega⟩, ⟨by (try simp only [hl3_1]); (with_reducible repeat (first | apply zF | apply zG | apply zH)); exact HQ12.out⟩, ⟨zT HB.out GB10.out⟩⟩
      rw [if_neg c8] at H
      exact absurd H (by simp)
     rw [if_neg c7] at H
     exact absurd H (by simp)
    rw [if_neg c6] at H
    exact absurd H (by simp)
   rw [if_neg c5] at H
   have c5b0 : decide (x9_1 < (t1438.length : Int)) = false := decide_eq_false c5
   (try (have c5b0h0_ := c5b0; rw [hl3_1] at c5b0h0_))
   clear c5
   obtain rfl := Option.some.inj H
   go_wp2
   go_ret
   exact ⟨_, zr, zP HO_3.out, zQ HB.out⟩

/-! ### cmp_isNaN_int64: function 184 -/
def cmp_isNaN_int64.f (a0 : Int) : Option (Bool) := some (a0 != a0)
set_option maxHeartbeats 8000000 in
set_option maxRecDepth 100000 in
theorem cmp_isNaN_int64.calls (a0 : Int) (r : Bool) (w : World) (h : cmp_isNaN_int64.f a0 = some r) :
  Calls Tryd.prog 184 #[.int .i64 a0] w fun e w' => e = .returned (.bool r) ∧ Drawn0 w w' := by
 have H := h
 unfold cmp_isNaN_int64.f at H
 clear h
 obtain rfl := Option.some.inj H
 go_enter Tryd.func184, Tryd.ntmps184
 go_wp2
 go_ret
 exact ⟨zs, by repeat (first | exact Drawn0.refl _ | apply Drawn0.step)⟩

/-! ### cmp_Less_int64: function 174 -/
def cmp_Less_int64.f (a0 : Int) (a1 : Int) : Option (Bool) := (cmp_isNaN_int64.f a0).bind fun t1445 => (if t1445 = true then ((cmp_isNaN_int64.f a1).bind fun t1446 => (if t1446 = true then (some (decide (a0 < a1))) else (some true))) else (some (decide (a0 < a1))))
set_option maxHeartbeats 8000000 in
set_option maxRecDepth 100000 in
theorem cmp_Less_int64.calls (a0 : Int) (a1 : Int) (r : Bool) (w : World) (h : cmp_Less_int64.f a0 a1 = some r) :
  Calls Tryd.prog 174 #[.int .i64 a0, .int .i64 a1] w fun e w' => e = .returned (.bool r) ∧ Drawn0 w w' := by
 have H := h
 unfold cmp_Less_int64.f at H
 clear h
 obtain ⟨t1445, A3, H⟩ := zb H
 try dsimp only at H
 by_cases c4 : t1445 = true
 ·subst c4
  rw [if_pos rfl] at H
  obtain ⟨t1446, A5, H⟩ := zb H
  try dsimp only at H
  by_cases c6 : t1446 = true
  ·subst c6
   rw [if_pos rfl] at H
   obtain rfl := Option.some.inj H
   go_enter Tryd.func174, Tryd.ntmps174
   go_wp2_with (first | (refine zO (some 6) Tryd.func184 #[.int .i64 a0] ?_; (with_reducible refine (cmp_isNaN_int64.calls a0 true _ A3.out).mono ?_); rintro e w' ⟨rfl, ⟨nd, rfl⟩⟩; refine ⟨_, rfl, ?_⟩) | (go_at_call 184; (with_reducible refine (cmp_isNaN_int64.calls a1 true _ A5.out).mono ?_); rintro e w' ⟨rfl, ⟨nd, rfl⟩⟩))
   go_ret
   exact ⟨zs, by repeat (first | exact Drawn0.refl _ | apply Drawn0.step)⟩
  replace c6 := Bool.eq_false_iff.mpr c6
  subst c6
  rw [if_neg (show ¬ (false = true) by decide)] at H
  obtain rfl := Option.some.inj H
  go_enter Tryd.func174, Tryd.ntmps174
  go_wp2_with (first | (refine zO (some 6) Tryd.func184 #[.int .i64 a0] ?_; (with_reducible refine (cmp_isNaN_int64.calls a0 true _ A3.out).mono ?_); rintro e w' ⟨rfl, ⟨nd, rfl⟩⟩; refine ⟨_, rfl, ?_⟩) | (go_at_call 184; (with_reducible refine (cmp_isNaN_int64.calls a1 false _ A5.out).mono ?_); rintro e w' ⟨rfl, ⟨nd, rfl⟩⟩))
  go_ret
  exact ⟨zs, by repeat (first | exact Drawn0.refl _ | apply Drawn0.step)⟩
 replace c4 := Bool.eq_false_iff.mpr c4
 subst c4
 rw [if_neg (show ¬ (false = true) by decide)] at H
 obtain rfl := Option.some.inj H
 go_enter Tryd.func174, Tryd.ntmps174
 go_wp2_with (first | (refine zO (some 6) Tryd.func184 #[.int .i64 a0] ?_; (with_reducible refine (cmp_isNaN_int64.calls a0 false _ A3.out).mono ?_); rintro e w' ⟨rfl, ⟨nd, rfl⟩⟩; refine ⟨_, rfl, ?_⟩))
 go_ret
 exact ⟨zs, by repeat (first | exact Drawn0.refl _ | apply Drawn0.step)⟩

/-! ### slices_insertionSortOrdered_int64: function 168 -/
mutual
def slices_insertionSortOrdered_int64.l0 : Nat → List Int → Int → Int → Int → Option (List Int)
 | 0, _, _, _, _ => none
 | k + 1, x0, x1, x2, x6 => if x6 < x2 then (slices_insertionSortOrdered_int64.l1 k x0 x1 x2 x6 x6) else (some x0)
def slices_insertionSortOrdered_int64.l1 : Nat → List Int → Int → Int → Int → Int → Option (List Int)
 | 0, _, _, _, _, _ => none
 | k + 1, x0, x1, x2, x6, x7 => if x7 > x1 then (if 0 ≤ x7 then (if x7 < (x0.length : Int) then (if 0 ≤ (wrap64 (x7 - 1)) then (if (wrap64 (x7 - 1)) < (x0.length : Int) then ((cmp_Less_int64.f (rd x0 x7) (rd x0 (wrap64 (x7 - 1)))).bind fun t1449 => (if t1449 = true then (slices_insertionSortOrdered_int64.l1 k ((x0.set (x7 : Int).toNat (rd x0 (wrap64 (x7 - 1)))).set ((wrap64 (x7 - 1)) : Int).toNat (rd x0 x7)) x1 x2 x6 (wrap64 (x7 - 1))) else (slices_insertionSortOrdered_int64.l0 k x0 x1 x2 (wrap64 (x6 + 1))))) else (none)) else (none)) else (none)) else (none)) else (slices_insertionSortOrdered_int64.l0 k x0 x1 x2 (wrap64 (x6 + 1)))
end
def slices_insertionSortOrdered_int64.f (k : Nat) (l0 : List Int) (a1 : Int) (a2 : Int) : Option (List Int) := slices_insertionSortOrdered_int64.l0 k l0 a1 a2 (wrap64 (a1 + 1))

def slices_insertionSortOrdered_int64.T4 : Bool × List (List Nat × List Nat) := (true, [([], []), ([], []), ([0, 1], [0, 1]), ([2], [2]), ([3], [3]), ([3], [3]), ([4, 5, 3], [3, 4, 5]), ([6, 3], [3, 6]), ([3], [3]), ([3], [3]), ([9, 3], [3, 9]), ([8, 10, 3], [3, 8, 10]), ([11, 3], [3, 11]), ([7, 12, 3, 3], [3, 7, 12]), ([3, 13], [3, 13])])
def slices_insertionSortOrdered_int64.B4 : List Nat := [0, 0, 3, 7, 15, 15, 63, 127, 15, 15, 527, 1807, 3855, 8191, 16383]
theorem slices_insertionSortOrdered_int64.tab4 : rtab .any (opsOf Tryd.f168 4) = slices_insertionSortOrdered_int64.T4 := by kernel_rfl
theorem slices_insertionSortOrdered_int64.bits4 : waitsOk slices_insertionSortOrdered_int64.T4.2 slices_insertionSortOrdered_int64.B4 = true := by kernel_rfl
def slices_insertionSortOrdered_int64.T6 : Bool × List (List Nat × List Nat) := (true, [([], []), ([], []), ([], []), ([], []), ([3], [3]), ([], []), ([], []), ([6], [6]), ([5, 7], [5, 7]), ([8], [8]), ([], []), ([], []), ([10, 11], [10, 11]), ([12], [12]), ([0, 1, 0, 1, 5, 6, 7, 8, 9, 13], [0, 1]), ([14, 9, 0, 1, 5, 6, 7, 8, 9, 13], [9, 14]), ([2, 4, 0, 1, 2, 3, 4, 5, 6, 7, 8, 9, 10, 11, 12, 13, 14, 15], [2, 4]), ([16, 13, 15, 0, 1, 2, 3, 4, 5, 6, 7, 8, 9, 10, 11, 12, 13, 14, 15], [13, 16])])
def slices_insertionSortOrdered_int64.B6 : List Nat := [0, 0, 0, 0, 8, 0, 0, 64, 224, 480, 0, 0, 3072, 7168, 16355, 32739, 65535, 131071]
theorem slices_insertionSortOrdered_int64.tab6 : rtab .any (opsOf Tryd.f168 6) = slices_insertionSortOrdered_int64.T6 := by kernel_rfl
theorem slices_insertionSortOrdered_int64.bits6 : waitsOk slices_insertionSortOrdered_int64.T6.2 slices_insertionSortOrdered_int64.B6 = true := by kernel_rfl
set_option maxHeartbeats 8000000 in
set_option maxRecDepth 100000 in
theorem slices_insertionSortOrdered_int64.calls (k : Nat) (P0_ : Nat → Prop) (u9000_ : Value) (l0 : List Int) (a1 : Int) (a2 : Int) (r : List Int) (w0 w : World) (hB : Below w0.heap.size w0 w) (ho0 : Kd.R (Kd.int .i64) 2 w w0.heap.size P0_ u9000_ l0) (h : slices_insertionSortOrdered_int64.f k l0 a1 a2 = some r) :
  Calls Tryd.prog 168 #[u9000_, .int .i64 a1, .int .i64 a2] w fun e w' => e = .returned (.tuple #[]) ∧ Kd.R (Kd.int .i64) 2 w' w0.heap.size (fun k_ => (P0_ k_ ∨ w.heap.size ≤ k_)) u9000_ r ∧ Below w0.heap.size w0 w' ∧ Kept w w' (fun k_ => P0_ k_) := by
 have HO0 := zA (show Kd.R (Kd.int .i64) 2 w w0.heap.size (fun k_ => (P0_ k_ ∨ w.heap.size ≤ k_)) u9000_ l0 from kA ho0 (fun k_ hk => (.inl hk)))
 have HK := zA (Kept.refl w (fun k_ => P0_ k_))
 have HW0 := zA hB.size
 have HB := zA hB
 clear hB
 have H := h
 unfold slices_insertionSortOrdered_int64.f at H
 clear h
 have H' := zA H
 clear H
 go_enter Tryd.func168, Tryd.ntmps168
 go_wp2
 go_loopg [6] k (fun kq v6 w' => ∃ (x0_1 : List Int) (x6_1 : Int), v6 = .int .i64 x6_1 ∧ Aside0 (slices_insertionSortOrdered_int64.l0 kq x0_1 a1 a2 x6_1 = some r) ∧ Aside0 (kq ≤ k) ∧ Aside0 (Kd.R (Kd.int .i64) 2 w' w0.heap.size (fun k_ => (P0_ k_ ∨ w.heap.size ≤ k_)) u9000_ x0_1) ∧ Aside0 (Kept w w' (fun k_ => P0_ k_)) ∧ Aside0 (Below w0.heap.size w0 w'))
 case atStart => exact ⟨(l0), (wrap64 (a1 + 1)), zs, H', ⟨Nat.le_refl _⟩, ⟨zP HO0.out⟩, ⟨by repeat (first | (with_reducible first | exact HK.out | apply Kept.alloc | apply Kept.drewN | apply Kept.drew) | exact HK.out)⟩, ⟨zQ HB.out⟩⟩
 case round =>
  clear H'
  try clear c1
  obtain ⟨x0_1, x6_1, rfl, HA, HK1, HO_0, HK, HB⟩ := hrel
  cases gk with
  | zero => exact absurd HA.out (by simp [slices_insertionSortOrdered_int64.l0])
  | succ k1 =>
   have H := HA.out
   clear HA
   simp only [slices_insertionSortOrdered_int64.l0] at H
   by_cases c4 : x6_1 < a2
   ·rw [if_pos c4] at H
    have c4b0 : decide (x6_1 < a2) = true := decide_eq_true c4
    clear c4
    have H' := zA H
    clear H
    go_wp2
    go_loopg [7] k1 (fun kq v7 w' => ∃ (x0_2 : List Int) (x7_2 : Int), v7 = .int .i64 x7_2 ∧ Aside0 (slices_insertionSortOrdered_int64.l1 kq x0_2 a1 a2 x6_1 x7_2 = some r) ∧ Aside0 (kq ≤ k1) ∧ Aside0 (Kd.R (Kd.int .i64) 2 w' w0.heap.size (fun k_ => (P0_ k_ ∨ w.heap.size ≤ k_)) u9000_ x0_2) ∧ Aside0 (Kept w w' (fun k_ => P0_ k_)) ∧ Aside0 (Below w0.heap.size w0 w'))
    case atStart => exact ⟨(x0_1), (x6_1), zs, H', ⟨Nat.le_refl _⟩, ⟨zP HO_0.out⟩, ⟨by repeat (first | (with_reducible first | exact HK.out | apply Kept.alloc | apply Kept.drewN | apply Kept.drew) | exact HK.out)⟩, ⟨zQ HB.out⟩⟩
    case round =>
     clear H'
     try clear c1
     try clear c4
     obtain ⟨x0_2, x7_2, rfl, HA, HK2, HO_0, HK, HB⟩ := hrel
     cases gk with
     | zero => exact absurd HA.out (by simp [slices_insertionSortOrdered_int64.l1])
     | succ k2 =>
      have H := HA.out
      clear HA
      simp only [slices_insertionSortOrdered_int64.l1] at H
      by_cases c5 : x7_2 > a1
      ·rw [if_pos c5] at H
       have c5b0 : decide (a1 < x7_2) = true := decide_eq_true c5
       clear c5
       by_cases c6 : 0 ≤ x7_2
       ·rw [if_pos c6] at H
        have c6b0 : decide (0 ≤ x7_2) = true := decide_eq_true c6
        clear c6
        by_cases c7 : x7_2 < (x0_2.length : Int)
        ·rw [if_pos c7] at H
         have c7b0 : decide (x7_2 < (x0_2.length : Int)) = true := decide_eq_true c7
         clear c7
         obtain ⟨ji8, hji8⟩ : ∃ j_ : Int, (wrap64 (x7_2 - 1)) = j_ := ⟨_, rfl⟩
         replace H : (if 0 ≤ (ji8) then (if (ji8) < (x0_2.length : Int) then ((cmp_Less_int64.f (rd x0_2 x7_2) (rd x0_2 (ji8))).bind fun t1449 => (if t1449 = true then (slices_insertionSortOrdered_int64.l1 k2 ((x0_2.set (x7_2 : Int).toNat (rd x0_2 (ji8))).set ((ji8) : Int).toNat (rd x0_2 x7_2)) a1 a2 x6_1 ji8) else (slices_insertionSortOrdered_int64.l0 k2 x0_2 a1 a2 (wrap64 (x6_1 + 1))))) else (none)) else (none)) = some r := by first | (rw [hji8] at H; exact H) | (simp only [hji8] at H ⊢; exact H)
         have hji8w : (IntKind.i64.wrap (x7_2 - 1)) = ji8 := (i64_w _).trans hji8
         by_cases c9 : 0 ≤ (ji8)
         ·rw [if_pos c9] at H
          have c9b0 : decide (0 ≤ (ji8)) = true := decide_eq_true c9
          clear c9
          by_cases c10 : (ji8) < (x0_2.length : Int)
          ·rw [if_pos c10] at H
           have c10b0 : decide ((ji8) < (x0_2.length : Int)) = true := decide_eq_true c10
           clear c10
           obtain ⟨t1449, A11, H⟩ := zb H
           try dsimp only at H
           by_cases c12 : t1449 = true
           ·subst c12
            rw [if_pos rfl] at H
            obtain ⟨y1452, hy1452⟩ : ∃ y_ : List Int, y_ = (x0_2.set (x7_2 : Int).toNat (rd x0_2 (ji8))) := ⟨_, rfl⟩
            replace H : (slices_insertionSortOrdered_int64.l1 k2 (y1452.set ((ji8) : Int).toNat (rd x0_2 x7_2)) a1 a2 x6_1 ji8) = some r := zy hy1452 H
            have Ny1452 := zA hy1452
            clear hy1452
            obtain ⟨y1453, hy1453⟩ : ∃ y_ : List Int, y_ = (y1452.set ((ji8) : Int).toNat (rd x0_2 x7_2)) := ⟨_, rfl⟩
            replace H : (slices_insertionSortOrdered_int64.l1 k2 y1453 a1 a2 x6_1 ji8) = some r := zy hy1453 H
            have Ny1453 := zA hy1453
            clear hy1453
            have H' := zA H
            clear H
            try go_wp2
            replace HO_0 := zA (zH HO_0.out)
            replace HK := zA (Kept.drew HK.out)
            replace HB := zA (zD HB.out)
            obtain ⟨Ao16, co16, eo16⟩ := kM HO_0.out
            (first | subst eo16 | (injection eo16 with f1_ f2_ f3_; have f4_ := f1_.symm; have f5_ := f3_.symm; clear f1_ f2_ f3_; subst f4_; subst f5_))
            have p1447 : 0 ≤ (x7_2 : Int) := zd
            have q1447 : x7_2 < (x0_2.length : Int) := zd
            obtain ⟨ad1447, e1447, hx1447_0⟩ := Kd.at_int (kB HO_0.out).2.2 x7_2 p1447 q1447
            cases e1447
            replace p1447 := eq_true p1447
            replace q1447 := eq_true q1447
            have p1448 : 0 ≤ ((ji8) : Int) := zd
            have q1448 : (ji8) < (x0_2.length : Int) := zd
            obtain ⟨ad1448, e1448, hx1448_0⟩ := Kd.at_int (kB HO_0.out).2.2 (ji8) p1448 q1448
            obtain rfl : ad1447 = ad1448 := (by injection e1448)
            replace p1448 := eq_true p1448
            replace q1448 := eq_true q1448
            refine start_ (n := 15) (S := fun w' => w'.cell? (ad1447.add (x7_2).toNat) = some (.int .i64 (rd x0_2 x7_2)) ∧ w'.cell? (ad1447.add ((ji8)).toNat) = some (.int .i64 (rd x0_2 (ji8)))) (ds := []) #[false, false, false, false, false, false, false, false, false, false, false, false, false, false, false] (by kernel_rfl) rfl rfl ⟨hx1447_0, hx1448_0⟩ (fun hHeld => ?_); refine with_tabW slices_insertionSortOrdered_int64.tab4 slices_insertionSortOrdered_int64.bits4 (fun HT_ HW_ => ?_)
            generalize wr.drew = w15 at HO_0 HK HB hx1447_0 hx1448_0 hHeld ⊢
            refine zp 0 (some 16) #[true, false, false, false, false, false, false, false, false, false, false, false, false, false, false] HT_.out ?_
            refine zp 1 (some 17) #[true, true, false, false, false, false, false, false, false, false, false, false, false, false, false] HT_.out ?_
            refine zp 2 (some 18) #[true, true, true, false, false, false, false, false, false, false, false, false, false, false, false] HT_.out ?_
            refine zp 3 (some 19) #[true, true, true, true, false, false, false, false, false, false, false, false, false, false, false] HT_.out ?_
            refine zp 4 (some 20) #[true, true, true, true, true, false, false, false, false, false, false, false, false, false, false] HT_.out ?_
            refine zp 5 (some 21) #[true, true, true, true, true, true, false, false, false, false, false, false, false, false, false] HT_.out ?_
            refine zp 6 (some 22) #[true, true, true, true, true, true, true, false, false, false, false, false, false, false, false] HT_.out ?_
            refine zp 8 (some 24) #[true, true, true, true, true, true, true, false, true, false, false, false, false, false, false] HT_.out ?_
            refine zp 9 (some 25) #[true, true, true, true, true, true, true, false, true, true, false, false, false, false, false] HT_.out ?_
            refine zp 10 (some 26) #[true, true, true, true, true, true, true, false, true, true, true, false, false, false, false] HT_.out ?_
            refine zp 11 (some 27) #[true, true, true, true, true, true, true, false, true, true, true, true, false, false, false] HT_.out ?_
            refine zc 7 (some 23) #[true, true, true, true, true, true, true, true, true, true, true, true, false, false, false] HT_.out HW_.out hHeld ?_
            refine zc 12 (some 28) #[true, true, true, true, true, true, true, true, true, true, true, true, true, false, false] HT_.out HW_.out hHeld ?_
            refine one_ (i := 13) (N := some 29) #[true, true, true, true, true, true, true, true, true, true, true, true, true, true, false] rfl rfl (one_of HT_.out (by kernel_rfl)) (by decide) (fun K hK => ?_)
            refine goes_ Tryd.func174 (by kernel_rfl) rfl #[.int .i64 (rd x0_2 x7_2), .int .i64 (rd x0_2 (ji8))] (by rfl) rfl rfl (by (try simp only [List.map_toArray, List.map_cons, List.map_nil]); first | done | (simp only [hji8]; rfl) | rfl | (simp only [List.length_drop, List.length_take]; rfl)) ?_
            with_reducible refine (cmp_Less_int64.calls (rd x0_2 x7_2) (rd x0_2 (ji8)) true _ A11.out).mono ?_
            rintro e w' ⟨rfl, ⟨nd, rfl⟩⟩
            refine ⟨_, rfl, ?_⟩
            refine hK.out _ _ ⟨hHeld.1, hHeld.2⟩ (fun hHeld => ?_)
            clear hK K
            refine norm_ (a' := ?_) ?_ ?_
            rotate_left
            ·show Act.put _ (some 29) _ = _
             simp only [Act.put, zL, zM, zN, i64_w, i32_w]
             rfl
            refine zp 14 (some 30) #[true, true, true, true, true, true, true, true, true, true, true, true, true, true, true] HT_.out ?_
            refine done_ (done_of HT_.out (by kernel_rfl)) ?_
            try go_wp2
            (try (rw [drewN_self w15]; generalize hq_ : World.drewN w15 _ = w15; have n0_ : Aside0 (Kd.R (Kd.int .i64) 2 w15 w0.heap.size (fun k_ => (P0_ k_ ∨ w.heap.size ≤ k_)) (.slice (some ad1447) x0_2.length co16) x0_2) := ⟨by rw [← hq_]; exact (zP HO_0.out)⟩; have n1_ : Aside0 (Kept w w15 (fun k_ => P0_ k_)) := ⟨by rw [← hq_]; exact (by repeat (first | (with_reducible first | exact HK.out | apply Kept.alloc | apply Kept.drewN | apply Kept.drew) | exact HK.out))⟩; have n2_ : Aside0 (Below w0.heap.size w0 w15) := ⟨by rw [← hq_]; exact (zQ HB.out)⟩; clear HO_0 HK HB hq_; have HO_0 := n0_; have HK := n1_; have HB := n2_; clear n0_ n1_ n2_))
            replace HO_0 := zA (zH HO_0.out)
            replace HK := zA (Kept.drew HK.out)
            replace HB := zA (zD HB.out)
            have p1450 : 0 ≤ ((ji8) : Int) := zd
            have q1450 : (ji8) < (x0_2.length : Int) := zd
            obtain ⟨ad1450, e1450, hx1450_0⟩ := Kd.at_int (kB HO_0.out).2.2 (ji8) p1450 q1450
            obtain rfl : ad1447 = ad1450 := (by injection e1450)
            replace p1450 := eq_true p1450
            replace q1450 := eq_true q1450
            have p1451 : 0 ≤ (x7_2 : Int) := zd
            have q1451 : x7_2 < (x0_2.length : Int) := zd
            obtain ⟨ad1451, e1451, hx1451_0⟩ := Kd.at_int (kB HO_0.out).2.2 x7_2 p1451 q1451
            obtain rfl : ad1447 = ad1451 := (by injection e1451)
            replace p1451 := eq_true p1451
            replace q1451 := eq_true q1451
            have p13 : 0 ≤ (x7_2 : Int) := zd
            have q13 : (x7_2 : Int) < ((x0_2.length : Int) : Int) := zd
            obtain ⟨go13, co13, eo13, gb13, gl13, cl13, HG13⟩ := Kd.R_form HO_0.out (by omega)
            (first | cases eo13 | (injection eo13 with ea_ en_ ec_; (first | subst ea_ | (injection ea_ with ea_; subst ea_)); subst ec_; clear en_))
            have GB13 := zA gb13
            have GG13 := zA HG13
            clear gb13 gl13 HG13
            have HMgo13 := zA (show (P0_ go13 ∨ w.heap.size ≤ go13) from (HO_0.out.1 _ rfl))
            (first | simp only [add_plain] at hx1447_0 | skip)
            (first | simp only [add_plain] at hx1448_0 | skip)
            (first | simp only [add_plain] at hx1450_0 | skip)
            (first | simp only [add_plain] at hx1451_0 | skip)
            obtain ⟨hx13_0, hf13_0⟩ := Kd.R_celln 0 HO_0.out (x7_2 : Int) p13 q13
            replace p13 := eq_true p13
            replace q13 := eq_true q13
            have HP18 := Kd.R_putn HO_0.out (x7_2 : Int) (rd x0_2 (ji8))
            rw [← Ny1452.out] at HP18
            have HQ18 := zA HP18
            clear HP18
            have p14 : 0 ≤ ((ji8) : Int) := zd
            have q14 : ((ji8) : Int) < ((x0_2.length : Int) : Int) := zd
            obtain ⟨hx14_0, hf14_0⟩ := Kd.R_celln 0 HQ18.out ((ji8) : Int) p14 q14
            replace p14 := eq_true p14
            replace q14 := eq_true q14
            have HP19 := Kd.R_putn HQ18.out ((ji8) : Int) (rd x0_2 x7_2)
            rw [← Ny1453.out] at HP19
            have HQ19 := zA HP19
            clear HP19
            refine start_ (n := 18) (S := fun w' => w'.cell? ⟨go13, ((ji8)).toNat, none⟩ = some (.int .i64 (rd x0_2 (ji8))) ∧ w'.cell? ⟨go13, (x7_2).toNat, none⟩ = some (.int .i64 (rd x0_2 x7_2))) (ds := [15, 17]) #[false, false, false, false, false, false, false, false, false, false, false, false, false, false, false, false, false, false] (by kernel_rfl) rfl rfl ⟨hx1450_0, hx1451_0⟩ (fun hHeld => ?_); refine with_tabW slices_insertionSortOrdered_int64.tab6 slices_insertionSortOrdered_int64.bits6 (fun HT_ HW_ => ?_)
            generalize w15.drew = w17 at HO_0 HK HB GG13 HQ18 HQ19 hf13_0 hf14_0 hx13_0 hx1447_0 hx1448_0 hx1450_0 hx1451_0 hx14_0 hHeld ⊢
            refine zp 0 (some 33) #[true, false, false, false, false, false, false, false, false, false, false, false, false, false, false, false, false, false] HT_.out ?_
            refine zp 1 (some 34) #[true, true, false, false, false, false, false, false, false, false, false, false, false, false, false, false, false, false] HT_.out ?_
            refine zp 2 (some 35) #[true, true, true, false, false, false, false, false, false, false, false, false, false, false, false, false, false, false] HT_.out ?_
            refine zp 3 (some 36) #[true, true, true, true, false, false, false, false, false, false, false, false, false, false, false, false, false, false] HT_.out ?_
            refine zp 4 (some 37) #[true, true, true, true, true, false, false, false, false, false, false, false, false, false, false, false, false, false] HT_.out ?_
            refine zp 5 (some 38) #[true, true, true, true, true, true, false, false, false, false, false, false, false, false, false, false, false, false] HT_.out ?_
            refine zp 6 (some 39) #[true, true, true, true, true, true, true, false, false, false, false, false, false, false, false, false, false, false] HT_.out ?_
            refine zp 7 (some 40) #[true, true, true, true, true, true, true, true, false, false, false, false, false, false, false, false, false, false] HT_.out ?_
            refine zp 8 (some 41) #[true, true, true, true, true, true, true, true, true, false, false, false, false, false, false, false, false, false] HT_.out ?_
            refine zp 10 (some 43) #[true, true, true, true, true, true, true, true, true, false, true, false, false, false, false, false, false, false] HT_.out ?_
            refine zp 11 (some 44) #[true, true, true, true, true, true, true, true, true, false, true, true, false, false, false, false, false, false] HT_.out ?_
            refine zp 12 (some 45) #[true, true, true, true, true, true, true, true, true, false, true, true, true, false, false, false, false, false] HT_.out ?_
            refine zc 9 (some 42) #[true, true, true, true, true, true, true, true, true, true, true, true, true, false, false, false, false, false] HT_.out HW_.out hHeld ?_
            refine zc 13 (some 46) #[true, true, true, true, true, true, true, true, true, true, true, true, true, true, false, false, false, false] HT_.out HW_.out hHeld ?_
            refine zp 14 (some 47) #[true, true, true, true, true, true, true, true, true, true, true, true, true, true, true, false, false, false] HT_.out ?_
            refine last_ (i := 15) (N := none) #[true, true, true, true, true, true, true, true, true, true, true, true, true, true, true, true, false, false] rfl rfl (one_of HT_.out (by kernel_rfl)) (by decide) (fun K hK => ?_)
            refine skip_ (w1 := ?_) (by rfl) rfl ?_ ?_
            rotate_left
            ·go_simp
             rfl
            refine hK.out _ _ ?_
            clear hK K
            refine zp 16 (some 48) #[true, true, true, true, true, true, true, true, true, true, true, true, true, true, true, true, true, false] HT_.out ?_
            refine last_ (i := 17) (N := none) #[true, true, true, true, true, true, true, true, true, true, true, true, true, true, true, true, true, true] rfl rfl (one_of HT_.out (by kernel_rfl)) (by decide) (fun K hK => ?_)
            refine skip_ (w1 := ?_) (by rfl) rfl ?_ ?_
            rotate_left
            ·go_simp
             rfl
            refine hK.out _ _ ?_
            clear hK K
            refine done_ (done_of HT_.out (by kernel_rfl)) ?_
            try go_wp2
            go_roundg k2
            case measure => have := HK1.out; have := HK2.out; omega
            case rel => exact ⟨(y1453), (ji8), (by first | rfl | (simp; done) | (simp only [← hji8] <;> (first | rfl | simp)) | (simp [*]; done)), H', ⟨by have := HK1.out; have := HK2.out; omega⟩, ⟨zP HQ19.out⟩, ⟨by repeat (first | (with_reducible first | exact HK.out | apply Kept.alloc | apply Kept.drewN | apply Kept.drew | refine Kept.setCell ?_ HMgo13.out _ | refine Kept.setCell ?_ HMgo13.out _) | exact HK.out)⟩, ⟨zV HB.out GB13.out GB13.out⟩⟩
           replace c12 := Bool.eq_false_iff.mpr c12
           subst c12
           rw [if_neg (show ¬ (false = true) by decide)] at H
           have H' := zA H
           clear H
           try go_wp2
           replace HO_0 := zA (zH HO_0.out)
           replace HK := zA (Kept.drew HK.out)
           replace HB := zA (zD HB.out)
           obtain ⟨Ao21, co21, eo21⟩ := kM HO_0.out
           (first | subst eo21 | (injection eo21 with f1_ f2_ f3_; have f4_ := f1_.symm; have f5_ := f3_.symm; clear f1_ f2_ f3_; subst f4_; subst f5_))
           have p1447 : 0 ≤ (x7_2 : Int) := zd
           have q1447 : x7_2 < (x0_2.length : Int) := zd
           obtain ⟨ad1447, e1447, hx1447_0⟩ := Kd.at_int (kB HO_0.out).2.2 x7_2 p1447 q1447
           cases e1447
           replace p1447 := eq_true p1447
           replace q1447 := eq_true q1447
           have p1448 : 0 ≤ ((ji8) : Int) := zd
           have q1448 : (ji8) < (x0_2.length : Int) := zd
           obtain ⟨ad1448, e1448, hx1448_0⟩ := Kd.at_int (kB HO_0.out).2.2 (ji8) p1448 q1448
           obtain rfl : ad1447 = ad1448 := (by injection e1448)
           replace p1448 := eq_true p1448
           replace q1448 := eq_true q1448
           refine start_ (n := 15) (S := fun w' => w'.cell? (ad1447.add (x7_2).toNat) = some (.int .i64 (rd x0_2 x7_2)) ∧ w'.cell? (ad1447.add ((ji8)).toNat) = some (.int .i64 (rd x0_2 (ji8)))) (ds := []) #[false, false, false, false, false, false, false, false, false, false, false, false, false, false, false] (by kernel_rfl) rfl rfl ⟨hx1447_0, hx1448_0⟩ (fun hHeld => ?_); refine with_tabW slices_insertionSortOrdered_int64.tab4 slices_insertionSortOrdered_int64.bits4 (fun HT_ HW_ => ?_)
           generalize wr.drew = w20 at HO_0 HK HB hx1447_0 hx1448_0 hHeld ⊢
           refine zp 0 (some 16) #[true, false, false, false, false, false, false, false, false, false, false, false, false, false, false] HT_.out ?_
           refine zp 1 (some 17) #[true, true, false, false, false, false, false, false, false, false, false, false, false, false, false] HT_.out ?_
           refine zp 2 (some 18) #[true, true, true, false, false, false, false, false, false, false, false, false, false, false, false] HT_.out ?_
           refine zp 3 (some 19) #[true, true, true, true, false, false, false, false, false, false, false, false, false, false, false] HT_.out ?_
           refine zp 4 (some 20) #[true, true, true, true, true, false, false, false, false, false, false, false, false, false, false] HT_.out ?_
           refine zp 5 (some 21) #[true, true, true, true, true, true, false, false, false, false, false, false, false, false, false] HT_.out ?_
           refine zp 6 (some 22) #[true, true, true, true, true, true, true, false, false, false, false, false, false, false, false] HT_.out ?_
           refine zp 8 (some 24) #[true, true, true, true, true, true, true, false, true, false, false, false, false, false, false] HT_.out ?_
           refine zp 9 (some 25) #[true, true, true, true, true, true, true, false, true, true, false, false, false, false, false] HT_.out ?_
           refine zp 10 (some 26) #[true, true, true, true, true, true, true, false, true, true, true, false, false, false, false] HT_.out ?_
           refine zp 11 (some 27) #[true, true, true, true, true, true, true, false, true, true, true, true, false, false, false] HT_.out ?_
           refine zc 7 (some 23) #[true, true, true, true, true, true, true, true, true, true, true, true, false, false, false] HT_.out HW_.out hHeld ?_
           refine zc 12 (some 28) #[true, true, true, true, true, true, true, true, true, true, true, true, true, false, false] HT_.out HW_.out hHeld ?_
           refine one_ (i := 13) (N := some 29) #[true, true, true, true, true, true, true, true, true, true, true, true, true, true, false] rfl rfl (one_of HT_.out (by kernel_rfl)) (by decide) (fun K hK => ?_)
           refine goes_ Tryd.func174 (by kernel_rfl) rfl #[.int .i64 (rd x0_2 x7_2), .int .i64 (rd x0_2 (ji8))] (by rfl) rfl rfl (by (try simp only [List.map_toArray, List.map_cons, List.map_nil]); first | done | (simp only [hji8]; rfl) | rfl | (simp only [List.length_drop, List.length_take]; rfl)) ?_
           with_reducible refine (cmp_Less_int64.calls (rd x0_2 x7_2) (rd x0_2 (ji8)) false _ A11.out).mono ?_
           rintro e w' ⟨rfl, ⟨nd, rfl⟩⟩
           refine ⟨_, rfl, ?_⟩
           refine hK.out _ _ ⟨hHeld.1, hHeld.2⟩ (fun hHeld => ?_)
           clear hK K
           refine norm_ (a' := ?_) ?_ ?_
           rotate_left
           ·show Act.put _ (some 29) _ = _
            simp only [Act.put, zL, zM, zN, i64_w, i32_w]
            rfl
           refine zp 14 (some 30) #[true, true, true, true, true, true, true, true, true, true, true, true, true, true, true] HT_.out ?_
           refine done_ (done_of HT_.out (by kernel_rfl)) ?_
           try go_wp2
           go_roundg k2
           case measure => have := HK1.out; have := HK2.out; omega
           case rel => exact ⟨(x0_2), (wrap64 (x6_1 + 1)), zs, H', ⟨by have := HK1.out; have := HK2.out; omega⟩, ⟨zP HO_0.out⟩, ⟨by repeat (first | (with_reducible first | exact HK.out | apply Kept.alloc | apply Kept.drewN | apply Kept.drew) | exact HK.out)⟩, ⟨zQ HB.out⟩⟩
          rw [if_neg c10] at H
          exact absurd H (by simp)
         rw [if_neg c9] at H
         exact absurd H (by simp)
        rw [if_neg c7] at H
        exact absurd H (by simp)
       rw [if_neg c6] at H
       exact absurd H (by simp)
      rw [if_neg c5] at H
      have c5b0 : decide (a1 < x7_2) = false := decide_eq_false c5
      clear c5
      have H' := zA H
      clear H
      try go_wp2
      replace HO_0 := zA (zH HO_0.out)
      replace HK := zA (Kept.drew HK.out)
      replace HB := zA (zD HB.out)
      refine start_ (n := 15) (S := fun w' => True) (ds := []) #[false, false, false, false, false, false, false, false, false, false, false, false, false, false, false] (by kernel_rfl) rfl rfl trivial (fun hHeld => ?_); refine with_tabW slices_insertionSortOrdered_int64.tab4 slices_insertionSortOrdered_int64.bits4 (fun HT_ HW_ => ?_)
      generalize wr.drew = w22 at HO_0 HK HB hHeld ⊢
      refine zp 0 (some 16) #[true, false, false, false, false, false, false, false, false, false, false, false, false, false, false] HT_.out ?_
      refine zp 1 (some 17) #[true, true, false, false, false, false, false, false, false, false, false, false, false, false, false] HT_.out ?_
      refine zp 2 (some 18) #[true, true, true, false, false, false, false, false, false, false, false, false, false, false, false] HT_.out ?_
      refine zp 3 (some 19) #[true, true, true, true, false, false, false, false, false, false, false, false, false, false, false] HT_.out ?_
      refine zu 4 (some 20) #[true, true, true, true, true, false, false, false, false, false, false, false, false, false, false] HT_.out ?_
      refine zu 5 (some 21) #[true, true, true, true, true, true, false, false, false, false, false, false, false, false, false] HT_.out ?_
      refine zu 6 (some 22) #[true, true, true, true, true, true, true, false, false, false, false, false, false, false, false] HT_.out ?_
      refine zu 7 (some 23) #[true, true, true, true, true, true, true, true, false, false, false, false, false, false, false] HT_.out ?_
      refine zu 8 (some 24) #[true, true, true, true, true, true, true, true, true, false, false, false, false, false, false] HT_.out ?_
      refine zu 9 (some 25) #[true, true, true, true, true, true, true, true, true, true, false, false, false, false, false] HT_.out ?_
      refine zu 10 (some 26) #[true, true, true, true, true, true, true, true, true, true, true, false, false, false, false] HT_.out ?_
      refine zu 11 (some 27) #[true, true, true, true, true, true, true, true, true, true, true, true, false, false, false] HT_.out ?_
      refine zu 12 (some 28) #[true, true, true, true, true, true, true, true, true, true, true, true, true, false, false] HT_.out ?_
      refine zu 13 (some 29) #[true, true, true, true, true, true, true, true, true, true, true, true, true, true, false] HT_.out ?_
      refine zp 14 (some 30) #[true, true, true, true, true, true, true, true, true, true, true, true, true, true, true] HT_.out ?_
      refine done_ (done_of HT_.out (by kernel_rfl)) ?_
      try go_wp2
      go_roundg k2
      case measure => have := HK1.out; have := HK2.out; omega
      case rel => exact ⟨(x0_2), (wrap64 (x6_1 + 1)), zs, H', ⟨by have := HK1.out; have := HK2.out; omega⟩, ⟨zP HO_0.out⟩, ⟨by repeat (first | (with_reducible first | exact HK.out | apply Kept.alloc | apply Kept.drewN | apply Kept.drew) | exact HK.out)⟩, ⟨zQ HB.out⟩⟩
   rw [if_neg c4] at H
   have c4b0 : decide (x6_1 < a2) = false := decide_eq_false c4
   clear c4
   obtain rfl := Option.some.inj H
   go_wp2
   first | go_end0 | ((try simp only [Exit.inBlock, Exit.then]); refine bodyPost_ret (results_none rfl _ _ _) rfl ?_)
   exact ⟨zr, zP HO_0.out, zQ HB.out, by repeat (first | (with_reducible first | exact HK.out | apply Kept.alloc | apply Kept.drewN | apply Kept.drew) | exact HK.out)⟩

/-! ### slices_siftDownOrdered_int64: function 179 -/
mutual
def slices_siftDownOrdered_int64.l0 : Nat → List Int → Int → Int → Int → Option (List Int)
 | 0, _, _, _, _ => none
 | k + 1, x0, x2, x3, x8 => if (wrap64 ((wrap64 (2 * x8)) + 1)) ≥ x2 then (some x0) else (if (wrap64 ((wrap64 ((wrap64 (2 * x8)) + 1)) + 1)) < x2 then (if 0 ≤ (wrap64 (x3 + (wrap64 ((wrap64 (2 * x8)) + 1)))) then (if (wrap64 (x3 + (wrap64 ((wrap64 (2 * x8)) + 1)))) < (x0.length : Int) then (if 0 ≤ (wrap64 ((wrap64 (x3 + (wrap64 ((wrap64 (2 * x8)) + 1)))) + 1)) then (if (wrap64 ((wrap64 (x3 + (wrap64 ((wrap64 (2 * x8)) + 1)))) + 1)) < (x0.length : Int) then ((cmp_Less_int64.f (rd x0 (wrap64 (x3 + (wrap64 ((wrap64 (2 * x8)) + 1))))) (rd x0 (wrap64 ((wrap64 (x3 + (wrap64 ((wrap64 (2 * x8)) + 1)))) + 1)))).bind fun t1456 => (slices_siftDownOrdered_int64.j1 k x0 x2 x3 x8 (wrap64 ((wrap64 (2 * x8)) + 1)) t1456)) else (none)) else (none)) else (none)) else (none)) else (slices_siftDownOrdered_int64.j1 k x0 x2 x3 x8 (wrap64 ((wrap64 (2 * x8)) + 1)) false))
def slices_siftDownOrdered_int64.j1 : Nat → List Int → Int → Int → Int → Int → Bool → Option (List Int)
 | 0, _, _, _, _, _, _ => none
 | k + 1, x0, x2, x3, x8, x9, x36 => if x36 = true then (if 0 ≤ (wrap64 (x3 + x8)) then (if (wrap64 (x3 + x8)) < (x0.length : Int) then (if 0 ≤ (wrap64 (x3 + (wrap64 (x9 + 1)))) then (if (wrap64 (x3 + (wrap64 (x9 + 1)))) < (x0.length : Int) then ((cmp_Less_int64.f (rd x0 (wrap64 (x3 + x8))) (rd x0 (wrap64 (x3 + (wrap64 (x9 + 1)))))).bind fun t1459 => (if t1459 = true then (slices_siftDownOrdered_int64.l0 k ((x0.set ((wrap64 (x3 + x8)) : Int).toNat (rd x0 (wrap64 (x3 + (wrap64 (x9 + 1)))))).set ((wrap64 (x3 + (wrap64 (x9 + 1)))) : Int).toNat (rd x0 (wrap64 (x3 + x8)))) x2 x3 (wrap64 (x9 + 1))) else (some x0))) else (none)) else (none)) else (none)) else (none)) else (if 0 ≤ (wrap64 (x3 + x8)) then (if (wrap64 (x3 + x8)) < (x0.length : Int) then (if 0 ≤ (wrap64 (x3 + x9)) then (if (wrap64 (x3 + x9)) < (x0.length : Int) then ((cmp_Less_int64.f (rd x0 (wrap64 (x3 + x8))) (rd x0 (wrap64 (x3 + x9)))).bind fun t1466 => (if t1466 = true then (slices_siftDownOrdered_int64.l0 k ((x0.set ((wrap64 (x3 + x8)) : Int).toNat (rd x0 (wrap64 (x3 + x9)))).set ((wrap64 (x3 + x9)) : Int).toNat (rd x0 (wrap64 (x3 + x8)))) x2 x3 x9) else (some x0))) else (none)) else (none)) else (none)) else (none))
end
def slices_siftDownOrdered_int64.f (k : Nat) (l0 : List Int) (a1 : Int) (a2 : Int) (a3 : Int) : Option (List Int) := slices_siftDownOrdered_int64.l0 k l0 a2 a3 a1

def slices_siftDownOrdered_int64.T3 : Bool × List (List Nat × List Nat) := (true, [([], []), ([0], [0]), ([], []), ([1, 2], [1, 2]), ([3], [3]), ([4], [4]), ([4], [4]), ([4], [4]), ([6, 7, 4], [4, 6, 7]), ([5, 8, 4], [4, 5, 8]), ([9, 4], [4, 9]), ([4], [4]), ([4], [4]), ([4], [4]), ([12, 13, 4], [4, 12, 13]), ([14, 4], [4, 14]), ([11, 15, 4], [4, 11, 15]), ([16, 4], [4, 16]), ([10, 17, 4, 4], [4, 10, 17]), ([4, 18], [4, 18])])
def slices_siftDownOrdered_int64.B3 : List Nat := [0, 1, 0, 7, 15, 31, 31, 31, 223, 511, 1023, 31, 31, 31, 12319, 28703, 63519, 129055, 262143, 524287]
theorem slices_siftDownOrdered_int64.tab3 : rtab .any (opsOf Tryd.f179 3) = slices_siftDownOrdered_int64.T3 := by kernel_rfl
theorem slices_siftDownOrdered_int64.bits3 : waitsOk slices_siftDownOrdered_int64.T3.2 slices_siftDownOrdered_int64.B3 = true := by kernel_rfl
def slices_siftDownOrdered_int64.T5 : Bool × List (List Nat × List Nat) := (true, [([], []), ([], []), ([], []), ([1, 2], [1, 2]), ([0, 3], [0, 3]), ([4], [4]), ([], []), ([], []), ([], []), ([7, 8], [7, 8]), ([6, 9], [6, 9]), ([10], [10]), ([5, 11], [5, 11]), ([12], [12])])
def slices_siftDownOrdered_int64.B5 : List Nat := [0, 0, 0, 6, 15, 31, 0, 0, 0, 384, 960, 1984, 4095, 8191]
theorem slices_siftDownOrdered_int64.tab5 : rtab .any (opsOf Tryd.f179 5) = slices_siftDownOrdered_int64.T5 := by kernel_rfl
theorem slices_siftDownOrdered_int64.bits5 : waitsOk slices_siftDownOrdered_int64.T5.2 slices_siftDownOrdered_int64.B5 = true := by kernel_rfl
def slices_siftDownOrdered_int64.T6 : Bool × List (List Nat × List Nat) := (true, [([], []), ([], []), ([], []), ([1, 2], [1, 2]), ([], []), ([], []), ([], []), ([5, 6], [5, 6]), ([], []), ([], []), ([], []), ([9, 10], [9, 10]), ([8, 11], [8, 11]), ([12], [12]), ([], []), ([], []), ([], []), ([15, 16], [15, 16]), ([14, 17], [14, 17]), ([18], [18]), ([0, 3, 0, 1, 2, 3, 8, 9, 10, 11, 12, 13, 19], [0, 3]), ([20, 13, 0, 1, 2, 3, 8, 9, 10, 11, 12, 13, 19], [13, 20]), ([4, 7, 0, 1, 2, 3, 4, 5, 6, 7, 8, 9, 10, 11, 12, 13, 14, 15, 16, 17, 18, 19, 20, 21], [4, 7]), ([22, 19, 21, 0, 1, 2, 3, 4, 5, 6, 7, 8, 9, 10, 11, 12, 13, 14, 15, 16, 17, 18, 19, 20, 21], [19, 22])])
def slices_siftDownOrdered_int64.B6 : List Nat := [0, 0, 0, 6, 0, 0, 0, 96, 0, 0, 0, 1536, 3840, 7936, 0, 0, 0, 98304, 245760, 507904, 1048335, 2096911, 4194303, 8388607]
theorem slices_siftDownOrdered_int64.tab6 : rtab .any (opsOf Tryd.f179 6) = slices_siftDownOrdered_int64.T6 := by kernel_rfl
theorem slices_siftDownOrdered_int64.bits6 : waitsOk slices_siftDownOrdered_int64.T6.2 slices_siftDownOrdered_int64.B6 = true := by kernel_rfl
set_option maxHeartbeats 8000000 in
set_option maxRecDepth 100000 in
theorem slices_siftDownOrdered_int64.calls (k : Nat) (P0_ : Nat → Prop) (u9000_ : Value) (l0 : List Int) (a1 : Int) (a2 : Int) (a3 : Int) (r : List Int) (w0 w : World) (hB : Below w0.heap.size w0 w) (ho0 : Kd.R (Kd.int .i64) 2 w w0.heap.size P0_ u9000_ l0) (h : slices_siftDownOrdered_int64.f k l0 a1 a2 a3 = some r) :
  Calls Tryd.prog 179 #[u9000_, .int .i64 a1, .int .i64 a2, .int .i64 a3] w fun e w' => e = .returned (.tuple #[]) ∧ Kd.R (Kd.int .i64) 2 w' w0.heap.size (fun k_ => (P0_ k_ ∨ w.heap.size ≤ k_)) u9000_ r ∧ Below w0.heap.size w0 w' ∧ Kept w w' (fun k_ => P0_ k_) := by
 have HO0 := zA (show Kd.R (Kd.int .i64) 2 w w0.heap.size (fun k_ => (P0_ k_ ∨ w.heap.size ≤ k_)) u9000_ l0 from kA ho0 (fun k_ hk => (.inl hk)))
 have HK := zA (Kept.refl w (fun k_ => P0_ k_))
 have HW0 := zA hB.size
 have HB := zA hB
 clear hB
 have H := h
 unfold slices_siftDownOrdered_int64.f at H
 clear h
 have H' := zA H
 clear H
 go_enter Tryd.func179, Tryd.ntmps179
 go_wp2
 go_loopg [8] k (fun kq v8 w' => ∃ (x0_1 : List Int) (x8_1 : Int), v8 = .int .i64 x8_1 ∧ Aside0 (slices_siftDownOrdered_int64.l0 kq x0_1 a2 a3 x8_1 = some r) ∧ Aside0 (kq ≤ k) ∧ Aside0 (Kd.R (Kd.int .i64) 2 w' w0.heap.size (fun k_ => (P0_ k_ ∨ w.heap.size ≤ k_)) u9000_ x0_1) ∧ Aside0 (Kept w w' (fun k_ => P0_ k_)) ∧ Aside0 (Below w0.heap.size w0 w'))
 case atStart => exact ⟨(l0), (a1), zs, H', ⟨Nat.le_refl _⟩, ⟨zP HO0.out⟩, ⟨by repeat (first | (with_reducible first | exact HK.out | apply Kept.alloc | apply Kept.drewN | apply Kept.drew) | exact HK.out)⟩, ⟨zQ HB.out⟩⟩
 case round =>
  clear H'
  try clear c1
  obtain ⟨x0_1, x8_1, rfl, HA, HK1, HO_0, HK, HB⟩ := hrel
  cases gk with
  | zero => exact absurd HA.out (by simp [slices_siftDownOrdered_int64.l0])
  | succ k1 =>
   have H := HA.out
   clear HA
   simp only [slices_siftDownOrdered_int64.l0] at H
   by_cases c5 : (wrap64 ((wrap64 (2 * x8_1)) + 1)) ≥ a2
   ·rw [if_pos c5] at H
    have c5b0 : decide (a2 ≤ (wrap64 ((wrap64 (2 * x8_1)) + 1))) = true := decide_eq_true c5
    clear c5
    obtain rfl := Option.some.inj H
    go_wp2
    first | go_end0 | ((try simp only [Exit.inBlock, Exit.then]); refine bodyPost_ret (results_none rfl _ _ _) rfl ?_)
    exact ⟨zr, zP HO_0.out, zQ HB.out, by repeat (first | (with_reducible first | exact HK.out | apply Kept.alloc | apply Kept.drewN | apply Kept.drew) | exact HK.out)⟩
   rw [if_neg c5] at H
   have c5b0 : decide (a2 ≤ (wrap64 ((wrap64 (2 * x8_1)) + 1))) = false := decide_eq_false c5
   clear c5
   have HC6 := zA H
   clear H
   go_upto_region 3 with (fail)
   go_cut [36] (fun v36 wc => ∃ (kq : Nat) (x36_5 : Bool), v36 = .bool x36_5 ∧ Aside0 (slices_siftDownOrdered_int64.j1 kq x0_1 a2 a3 x8_1 (wrap64 ((wrap64 (2 * x8_1)) + 1)) x36_5 = some r) ∧ Aside0 (kq ≤ k1) ∧ Aside0 (Kd.R (Kd.int .i64) 2 wc w0.heap.size (fun k_ => (P0_ k_ ∨ w.heap.size ≤ k_)) u9000_ x0_1) ∧ Aside0 (Kept w wc (fun k_ => P0_ k_)) ∧ Aside0 (Below w0.heap.size w0 wc))
   case first =>
    have H := HC6.out
    clear HC6
    by_cases c7 : (wrap64 ((wrap64 ((wrap64 (2 * x8_1)) + 1)) + 1)) < a2
    ·rw [if_pos c7] at H
     have c7b0 : decide ((wrap64 ((wrap64 ((wrap64 (2 * x8_1)) + 1)) + 1)) < a2) = true := decide_eq_true c7
     clear c7
     (first | rw [c7b0] | (simp only [i64_w, i32_w]; rw [c7b0]) | skip)
     obtain ⟨ji8, hji8⟩ : ∃ j_ : Int, (wrap64 (a3 + (wrap64 ((wrap64 (2 * x8_1)) + 1)))) = j_ := ⟨_, rfl⟩
     replace H : (if 0 ≤ (ji8) then (if (ji8) < (x0_1.length : Int) then (if 0 ≤ (wrap64 ((ji8) + 1)) then (if (wrap64 ((ji8) + 1)) < (x0_1.length : Int) then ((cmp_Less_int64.f (rd x0_1 (ji8)) (rd x0_1 (wrap64 ((ji8) + 1)))).bind fun t1456 => (slices_siftDownOrdered_int64.j1 k1 x0_1 a2 a3 x8_1 (wrap64 ((wrap64 (2 * x8_1)) + 1)) t1456)) else (none)) else (none)) else (none)) else (none)) = some r := by first | (rw [hji8] at H; exact H) | (simp only [hji8] at H ⊢; exact H)
     have hji8w : (IntKind.i64.wrap (a3 + (wrap64 ((wrap64 (2 * x8_1)) + 1)))) = ji8 := (i64_w _).trans hji8
     by_cases c9 : 0 ≤ (ji8)
     ·rw [if_pos c9] at H
      have c9b0 : decide (0 ≤ (ji8)) = true := decide_eq_true c9
      clear c9
      by_cases c10 : (ji8) < (x0_1.length : Int)
      ·rw [if_pos c10] at H
       have c10b0 : decide ((ji8) < (x0_1.length : Int)) = true := decide_eq_true c10
       clear c10
       obtain ⟨ji11, hji11⟩ : ∃ j_ : Int, (wrap64 ((ji8) + 1)) = j_ := ⟨_, rfl⟩
       replace H : (if 0 ≤ (ji11) then (if (ji11) < (x0_1.length : Int) then ((cmp_Less_int64.f (rd x0_1 (ji8)) (rd x0_1 (ji11))).bind fun t1456 => (slices_siftDownOrdered_int64.j1 k1 x0_1 a2 a3 x8_1 (wrap64 ((wrap64 (2 * x8_1)) + 1)) t1456)) else (none)) else (none)) = some r := by first | (rw [hji11] at H; exact H) | (simp only [hji11] at H ⊢; exact H)
       have hji11w : (IntKind.i64.wrap ((ji8) + 1)) = ji11 := (i64_w _).trans hji11
       by_cases c12 : 0 ≤ (ji11)
       ·rw [if_pos c12] at H
        have c12b0 : decide (0 ≤ (ji11)) = true := decide_eq_true c12
        clear c12
        by_cases c13 : (ji11) < (x0_1.length : Int)
        ·rw [if_pos c13] at H
         have c13b0 : decide ((ji11) < (x0_1.length : Int)) = true := decide_eq_true c13
         clear c13
         obtain ⟨t1456, A14, H⟩ := zb H
         try dsimp only at H
         have H' := zA H
         clear H
         try go_wp2
         replace HO_0 := zA (zH HO_0.out)
         replace HK := zA (Kept.drew HK.out)
         replace HB := zA (zD HB.out)
         obtain ⟨Ao16, co16, eo16⟩ := kM HO_0.out
         (first | subst eo16 | (injection eo16 with f1_ f2_ f3_; have f4_ := f1_.symm; have f5_ := f3_.symm; clear f1_ f2_ f3_; subst f4_; subst f5_))
         have p1454 : 0 ≤ ((ji8) : Int) := zd
         have q1454 : (ji8) < (x0_1.length : Int) := zd
         obtain ⟨ad1454, e1454, hx1454_0⟩ := Kd.at_int (kB HO_0.out).2.2 (ji8) p1454 q1454
         cases e1454
         replace p1454 := eq_true p1454
         replace q1454 := eq_true q1454
         have p1455 : 0 ≤ ((ji11) : Int) := zd
         have q1455 : (ji11) < (x0_1.length : Int) := zd
         obtain ⟨ad1455, e1455, hx1455_0⟩ := Kd.at_int (kB HO_0.out).2.2 (ji11) p1455 q1455
         obtain rfl : ad1454 = ad1455 := (by injection e1455)
         replace p1455 := eq_true p1455
         replace q1455 := eq_true q1455
         refine start_ (n := 20) (S := fun w' => w'.cell? (ad1454.add ((ji8)).toNat) = some (.int .i64 (rd x0_1 (ji8))) ∧ w'.cell? (ad1454.add ((ji11)).toNat) = some (.int .i64 (rd x0_1 (ji11)))) (ds := []) #[false, false, false, false, false, false, false, false, false, false, false, false, false, false, false, false, false, false, false, false] (by kernel_rfl) rfl rfl ⟨hx1454_0, hx1455_0⟩ (fun hHeld => ?_); refine with_tabW slices_siftDownOrdered_int64.tab3 slices_siftDownOrdered_int64.bits3 (fun HT_ HW_ => ?_)
         generalize wr.drew = w15 at HO_0 HK HB hx1454_0 hx1455_0 hHeld ⊢
         refine zp 0 (some 17) #[true, false, false, false, false, false, false, false, false, false, false, false, false, false, false, false, false, false, false, false] HT_.out ?_
         refine zp 1 (some 18) #[true, true, false, false, false, false, false, false, false, false, false, false, false, false, false, false, false, false, false, false] HT_.out ?_
         refine zp 2 (some 19) #[true, true, true, false, false, false, false, false, false, false, false, false, false, false, false, false, false, false, false, false] HT_.out ?_
         refine zp 3 (some 20) #[true, true, true, true, false, false, false, false, false, false, false, false, false, false, false, false, false, false, false, false] HT_.out ?_
         refine zp 4 (some 21) #[true, true, true, true, true, false, false, false, false, false, false, false, false, false, false, false, false, false, false, false] HT_.out ?_
         refine zp 5 (some 22) #[true, true, true, true, true, true, false, false, false, false, false, false, false, false, false, false, false, false, false, false] HT_.out ?_
         refine zp 6 (some 23) #[true, true, true, true, true, true, true, false, false, false, false, false, false, false, false, false, false, false, false, false] HT_.out ?_
         refine zp 7 (some 24) #[true, true, true, true, true, true, true, true, false, false, false, false, false, false, false, false, false, false, false, false] HT_.out ?_
         refine zp 8 (some 25) #[true, true, true, true, true, true, true, true, true, false, false, false, false, false, false, false, false, false, false, false] HT_.out ?_
         refine zp 9 (some 26) #[true, true, true, true, true, true, true, true, true, true, false, false, false, false, false, false, false, false, false, false] HT_.out ?_
         refine zp 11 (some 28) #[true, true, true, true, true, true, true, true, true, true, false, true, false, false, false, false, false, false, false, false] HT_.out ?_
         refine zp 12 (some 29) #[true, true, true, true, true, true, true, true, true, true, false, true, true, false, false, false, false, false, false, false] HT_.out ?_
         refine zp 13 (some 30) #[true, true, true, true, true, true, true, true, true, true, false, true, true, true, false, false, false, false, false, false] HT_.out ?_
         refine zp 14 (some 31) #[true, true, true, true, true, true, true, true, true, true, false, true, true, true, true, false, false, false, false, false] HT_.out ?_
         refine zp 15 (some 32) #[true, true, true, true, true, true, true, true, true, true, false, true, true, true, true, true, false, false, false, false] HT_.out ?_
         refine zp 16 (some 33) #[true, true, true, true, true, true, true, true, true, true, false, true, true, true, true, true, true, false, false, false] HT_.out ?_
         refine zc 10 (some 27) #[true, true, true, true, true, true, true, true, true, true, true, true, true, true, true, true, true, false, false, false] HT_.out HW_.out hHeld ?_
         refine zc 17 (some 34) #[true, true, true, true, true, true, true, true, true, true, true, true, true, true, true, true, true, true, false, false] HT_.out HW_.out hHeld ?_
         refine one_ (i := 18) (N := some 35) #[true, true, true, true, true, true, true, true, true, true, true, true, true, true, true, true, true, true, true, false] rfl rfl (one_of HT_.out (by kernel_rfl)) (by decide) (fun K hK => ?_)
         refine goes_ Tryd.func174 (by kernel_rfl) rfl #[.int .i64 (rd x0_1 (ji8)), .int .i64 (rd x0_1 (ji11))] (by rfl) rfl rfl (by (try simp only [List.map_toArray, List.map_cons, List.map_nil]); first | done | (simp only [hji11, hji8]; rfl) | rfl | (simp only [List.length_drop, List.length_take]; rfl)) ?_
         with_reducible refine (cmp_Less_int64.calls (rd x0_1 (ji8)) (rd x0_1 (ji11)) t1456 _ A14.out).mono ?_
         rintro e w' ⟨rfl, ⟨nd, rfl⟩⟩
         refine ⟨_, rfl, ?_⟩
         refine hK.out _ _ ⟨hHeld.1, hHeld.2⟩ (fun hHeld => ?_)
         clear hK K
         refine norm_ (a' := ?_) ?_ ?_
         rotate_left
         ·show Act.put _ (some 35) _ = _
          simp only [Act.put, zL, zM, zN, i64_w, i32_w]
          rfl
         refine zp 19 (some 36) #[true, true, true, true, true, true, true, true, true, true, true, true, true, true, true, true, true, true, true, true] HT_.out ?_
         refine done_ (done_of HT_.out (by kernel_rfl)) ?_
         try go_wp2
         go_meet
         case rel => exact ⟨_, (t1456), zs, H', ⟨by have := HK1.out; first | omega | exact Nat.le_refl _⟩, ⟨zP HO_0.out⟩, ⟨by repeat (first | (with_reducible first | exact HK.out | apply Kept.alloc | apply Kept.drewN | apply Kept.drew) | exact HK.out)⟩, ⟨zQ HB.out⟩⟩
        rw [if_neg c13] at H
        exact absurd H (by simp)
       rw [if_neg c12] at H
       exact absurd H (by simp)
      rw [if_neg c10] at H
      exact absurd H (by simp)
     rw [if_neg c9] at H
     exact absurd H (by simp)
    rw [if_neg c7] at H
    have c7b0 : decide ((wrap64 ((wrap64 ((wrap64 (2 * x8_1)) + 1)) + 1)) < a2) = false := decide_eq_false c7
    clear c7
    (first | rw [c7b0] | (simp only [i64_w, i32_w]; rw [c7b0]) | skip)
    have H' := zA H
    clear H
    try go_wp2
    replace HO_0 := zA (zH HO_0.out)
    replace HK := zA (Kept.drew HK.out)
    replace HB := zA (zD HB.out)
    refine start_ (n := 20) (S := fun w' => True) (ds := []) #[false, false, false, false, false, false, false, false, false, false, false, false, false, false, false, false, false, false, false, false] (by kernel_rfl) rfl rfl trivial (fun hHeld => ?_); refine with_tabW slices_siftDownOrdered_int64.tab3 slices_siftDownOrdered_int64.bits3 (fun HT_ HW_ => ?_)
    generalize wr.drew = w17 at HO_0 HK HB hHeld ⊢
    refine zp 0 (some 17) #[true, false, false, false, false, false, false, false, false, false, false, false, false, false, false, false, false, false, false, false] HT_.out ?_
    refine zp 1 (some 18) #[true, true, false, false, false, false, false, false, false, false, false, false, false, false, false, false, false, false, false, false] HT_.out ?_
    refine zp 2 (some 19) #[true, true, true, false, false, false, false, false, false, false, false, false, false, false, false, false, false, false, false, false] HT_.out ?_
    refine zp 3 (some 20) #[true, true, true, true, false, false, false, false, false, false, false, false, false, false, false, false, false, false, false, false] HT_.out ?_
    refine zp 4 (some 21) #[true, true, true, true, true, false, false, false, false, false, false, false, false, false, false, false, false, false, false, false] HT_.out ?_
    refine zu 5 (some 22) #[true, true, true, true, true, true, false, false, false, false, false, false, false, false, false, false, false, false, false, false] HT_.out ?_
    refine zu 6 (some 23) #[true, true, true, true, true, true, true, false, false, false, false, false, false, false, false, false, false, false, false, false] HT_.out ?_
    refine zu 7 (some 24) #[true, true, true, true, true, true, true, true, false, false, false, false, false, false, false, false, false, false, false, false] HT_.out ?_
    refine zu 8 (some 25) #[true, true, true, true, true, true, true, true, true, false, false, false, false, false, false, false, false, false, false, false] HT_.out ?_
    refine zu 9 (some 26) #[true, true, true, true, true, true, true, true, true, true, false, false, false, false, false, false, false, false, false, false] HT_.out ?_
    refine zu 10 (some 27) #[true, true, true, true, true, true, true, true, true, true, true, false, false, false, false, false, false, false, false, false] HT_.out ?_
    refine zu 11 (some 28) #[true, true, true, true, true, true, true, true, true, true, true, true, false, false, false, false, false, false, false, false] HT_.out ?_
    refine zu 12 (some 29) #[true, true, true, true, true, true, true, true, true, true, true, true, true, false, false, false, false, false, false, false] HT_.out ?_
    refine zu 13 (some 30) #[true, true, true, true, true, true, true, true, true, true, true, true, true, true, false, false, false, false, false, false] HT_.out ?_
    refine zu 14 (some 31) #[true, true, true, true, true, true, true, true, true, true, true, true, true, true, true, false, false, false, false, false] HT_.out ?_
    refine zu 15 (some 32) #[true, true, true, true, true, true, true, true, true, true, true, true, true, true, true, true, false, false, false, false] HT_.out ?_
    refine zu 16 (some 33) #[true, true, true, true, true, true, true, true, true, true, true, true, true, true, true, true, true, false, false, false] HT_.out ?_
    refine zu 17 (some 34) #[true, true, true, true, true, true, true, true, true, true, true, true, true, true, true, true, true, true, false, false] HT_.out ?_
    refine zu 18 (some 35) #[true, true, true, true, true, true, true, true, true, true, true, true, true, true, true, true, true, true, true, false] HT_.out ?_
    refine zp 19 (some 36) #[true, true, true, true, true, true, true, true, true, true, true, true, true, true, true, true, true, true, true, true] HT_.out ?_
    refine done_ (done_of HT_.out (by kernel_rfl)) ?_
    try go_wp2
    go_meet
    case rel => exact ⟨_, (false), zs, H', ⟨by have := HK1.out; first | omega | exact Nat.le_refl _⟩, ⟨zP HO_0.out⟩, ⟨by repeat (first | (with_reducible first | exact HK.out | apply Kept.alloc | apply Kept.drewN | apply Kept.drew) | exact HK.out)⟩, ⟨zQ HB.out⟩⟩
   case rest =>
    clear HC6
    try clear c1
    try clear hx1
    try clear c5
    try clear c7
    try clear c9
    try clear c10
    try clear c12
    try clear c13
    try clear hx14
    try clear c17
    try clear hx1454_0
    try clear hx1455_0
    obtain ⟨kq, x36_5, rfl, HA, HJ5, HO_0, HK, HB⟩ := hcut
    cases kq with
    | zero => exact absurd HA.out (by simp [slices_siftDownOrdered_int64.j1])
    | succ kj5 =>
     have H := HA.out
     clear HA
     simp only [slices_siftDownOrdered_int64.j1] at H
     by_cases c18 : x36_5 = true
     ·subst c18
      rw [if_pos rfl] at H
      obtain ⟨ji19, hji19⟩ : ∃ j_ : Int, (wrap64 (a3 + x8_1)) = j_ := ⟨_, rfl⟩
      replace H : (if 0 ≤ (ji19) then (if (ji19) < (x0_1.length : Int) then (if 0 ≤ (wrap64 (a3 + (wrap64 ((wrap64 ((wrap64 (2 * x8_1)) + 1)) + 1)))) then (if (wrap64 (a3 + (wrap64 ((wrap64 ((wrap64 (2 * x8_1)) + 1)) + 1)))) < (x0_1.length : Int) then ((cmp_Less_int64.f (rd x0_1 (ji19)) (rd x0_1 (wrap64 (a3 + (wrap64 ((wrap64 ((wrap64 (2 * x8_1)) + 1)) + 1)))))).bind fun t1459 => (if t1459 = true then (slices_siftDownOrdered_int64.l0 kj5 ((x0_1.set ((ji19) : Int).toNat (rd x0_1 (wrap64 (a3 + (wrap64 ((wrap64 ((wrap64 (2 * x8_1)) + 1)) + 1)))))).set ((wrap64 (a3 + (wrap64 ((wrap64 ((wrap64 (2 * x8_1)) + 1)) + 1)))) : Int).toNat (rd x0_1 (ji19))) a2 a3 (wrap64 ((wrap64 ((wrap64 (2 * x8_1)) + 1)) + 1))) else (some x0_1))) else (none)) else (none)) else (none)) else (none)) = some r := by first | (rw [hji19] at H; exact H) | (simp only [hji19] at H ⊢; exact H)
      have hji19w : (IntKind.i64.wrap (a3 + x8_1)) = ji19 := (i64_w _).trans hji19
      by_cases c20 : 0 ≤ (ji19)
      ·rw [if_pos c20] at H
       have c20b0 : decide (0 ≤ (ji19)) = true := decide_eq_true c20
       clear c20
       by_cases c21 : (ji19) < (x0_1.length : Int)
       ·rw [if_pos c21] at H
        have c21b0 : decide ((ji19) < (x0_1.length : Int)) = true := decide_eq_true c21
        clear c21
        obtain ⟨ji22, hji22⟩ : ∃ j_ : Int, (wrap64 (a3 + (wrap64 ((wrap64 ((wrap64 (2 * x8_1)) + 1)) + 1)))) = j_ := ⟨_, rfl⟩
        replace H : (if 0 ≤ (ji22) then (if (ji22) < (x0_1.length : Int) then ((cmp_Less_int64.f (rd x0_1 (ji19)) (rd x0_1 (ji22))).bind fun t1459 => (if t1459 = true then (slices_siftDownOrdered_int64.l0 kj5 ((x0_1.set ((ji19) : Int).toNat (rd x0_1 (ji22))).set ((ji22) : Int).toNat (rd x0_1 (ji19))) a2 a3 (wrap64 ((wrap64 ((wrap64 (2 * x8_1)) + 1)) + 1))) else (some x0_1))) else (none)) else (none)) = some r := by first | (rw [hji22] at H; exact H) | (simp only [hji22] at H ⊢; exact H)
        have hji22w : (IntKind.i64.wrap (a3 + (wrap64 ((wrap64 ((wrap64 (2 * x8_1)) + 1)) + 1)))) = ji22 := (i64_w _).trans hji22
        by_cases c23 : 0 ≤ (ji22)
        ·rw [if_pos c23] at H
         have c23b0 : decide (0 ≤ (ji22)) = true := decide_eq_true c23
         clear c23
         by_cases c24 : (ji22) < (x0_1.length : Int)
         ·rw [if_pos c24] at H
          have c24b0 : decide ((ji22) < (x0_1.length : Int)) = true := decide_eq_true c24
          clear c24
          obtain ⟨t1459, A25, H⟩ := zb H
          try dsimp only at H
          by_cases c26 : t1459 = true
          ·subst c26
           rw [if_pos rfl] at H
           obtain ⟨y1462, hy1462⟩ : ∃ y_ : List Int, y_ = (x0_1.set ((ji19) : Int).toNat (rd x0_1 (ji22))) := ⟨_, rfl⟩
           replace H : (slices_siftDownOrdered_int64.l0 kj5 (y1462.set ((ji22) : Int).toNat (rd x0_1 (ji19))) a2 a3 (wrap64 ((wrap64 ((wrap64 (2 * x8_1)) + 1)) + 1))) = some r := zy hy1462 H
           have Ny1462 := zA hy1462
           clear hy1462
           obtain ⟨y1463, hy1463⟩ : ∃ y_ : List Int, y_ = (y1462.set ((ji22) : Int).toNat (rd x0_1 (ji19))) := ⟨_, rfl⟩
           replace H : (slices_siftDownOrdered_int64.l0 kj5 y1463 a2 a3 (wrap64 ((wrap64 ((wrap64 (2 * x8_1)) + 1)) + 1))) = some r := zy hy1463 H
           have Ny1463 := zA hy1463
           clear hy1463
           have H' := zA H
           clear H
           try go_wp2
           replace HO_0 := zA (zH HO_0.out)
           replace HK := zA (Kept.drew HK.out)
           replace HB := zA (zD HB.out)
           obtain ⟨Ao30, co30, eo30⟩ := kM HO_0.out
           (first | subst eo30 | (injection eo30 with f1_ f2_ f3_; have f4_ := f1_.symm; have f5_ := f3_.symm; clear f1_ f2_ f3_; subst f4_; subst f5_))
           have p1457 : 0 ≤ ((ji19) : Int) := zd
           have q1457 : (ji19) < (x0_1.length : Int) := zd
           obtain ⟨ad1457, e1457, hx1457_0⟩ := Kd.at_int (kB HO_0.out).2.2 (ji19) p1457 q1457
           cases e1457
           replace p1457 := eq_true p1457
           replace q1457 := eq_true q1457
           have p1458 : 0 ≤ ((ji22) : Int) := zd
           have q1458 : (ji22) < (x0_1.length : Int) := zd
           obtain ⟨ad1458, e1458, hx1458_0⟩ := Kd.at_int (kB HO_0.out).2.2 (ji22) p1458 q1458
           obtain rfl : ad1457 = ad1458 := (by injection e1458)
           replace p1458 := eq_true p1458
           replace q1458 := eq_true q1458
           refine start_ (n := 14) (S := fun w' => w'.cell? (ad1457.add ((ji19)).toNat) = some (.int .i64 (rd x0_1 (ji19))) ∧ w'.cell? (ad1457.add ((ji22)).toNat) = some (.int .i64 (rd x0_1 (ji22)))) (ds := []) #[false, false, false, false, false, false, false, false, false, false, false, false, false, false] (by kernel_rfl) rfl rfl ⟨hx1457_0, hx1458_0⟩ (fun hHeld => ?_); refine with_tabW slices_siftDownOrdered_int64.tab5 slices_siftDownOrdered_int64.bits5 (fun HT_ HW_ => ?_)
           generalize wc.drew = w29 at HO_0 HK HB hx1457_0 hx1458_0 hHeld ⊢
           refine zp 0 (some 39) #[true, false, false, false, false, false, false, false, false, false, false, false, false, false] HT_.out ?_
           refine zp 1 (some 40) #[true, true, false, false, false, false, false, false, false, false, false, false, false, false] HT_.out ?_
           refine zp 2 (some 41) #[true, true, true, false, false, false, false, false, false, false, false, false, false, false] HT_.out ?_
           refine zp 3 (some 42) #[true, true, true, true, false, false, false, false, false, false, false, false, false, false] HT_.out ?_
           refine zp 4 (some 43) #[true, true, true, true, true, false, false, false, false, false, false, false, false, false] HT_.out ?_
           refine zp 6 (some 45) #[true, true, true, true, true, false, true, false, false, false, false, false, false, false] HT_.out ?_
           refine zp 7 (some 46) #[true, true, true, true, true, false, true, true, false, false, false, false, false, false] HT_.out ?_
           refine zp 8 (some 47) #[true, true, true, true, true, false, true, true, true, false, false, false, false, false] HT_.out ?_
           refine zp 9 (some 48) #[true, true, true, true, true, false, true, true, true, true, false, false, false, false] HT_.out ?_
           refine zp 10 (some 49) #[true, true, true, true, true, false, true, true, true, true, true, false, false, false] HT_.out ?_
           refine zc 5 (some 44) #[true, true, true, true, true, true, true, true, true, true, true, false, false, false] HT_.out HW_.out hHeld ?_
           refine zc 11 (some 50) #[true, true, true, true, true, true, true, true, true, true, true, true, false, false] HT_.out HW_.out hHeld ?_
           refine one_ (i := 12) (N := some 51) #[true, true, true, true, true, true, true, true, true, true, true, true, true, false] rfl rfl (one_of HT_.out (by kernel_rfl)) (by decide) (fun K hK => ?_)
           refine goes_ Tryd.func174 (by kernel_rfl) rfl #[.int .i64 (rd x0_1 (ji19)), .int .i64 (rd x0_1 (ji22))] (by rfl) rfl rfl (by (try simp only [List.map_toArray, List.map_cons, List.map_nil]); first | done | (simp only [hji19, hji22]; rfl) | rfl | (simp only [List.length_drop, List.length_take]; rfl)) ?_
           with_reducible refine (cmp_Less_int64.calls (rd x0_1 (ji19)) (rd x0_1 (ji22)) true _ A25.out).mono ?_
           rintro e w' ⟨rfl, ⟨nd, rfl⟩⟩
           refine ⟨_, rfl, ?_⟩
           refine hK.out _ _ ⟨hHeld.1, hHeld.2⟩ (fun hHeld => ?_)
           clear hK K
           refine norm_ (a' := ?_) ?_ ?_
           rotate_left
           ·show Act.put _ (some 51) _ = _
            simp only [Act.put, zL, zM, zN, i64_w, i32_w]
            rfl
           refine zp 13 (some 52) #[true, true, true, true, true, true, true, true, true, true, true, true, true, true] HT_.out ?_
           refine done_ (done_of HT_.out (by kernel_rfl)) ?_
           try go_wp2
           (try (rw [drewN_self w29]; generalize hq_ : World.drewN w29 _ = w29; have n0_ : Aside0 (Kd.R (Kd.int .i64) 2 w29 w0.heap.size (fun k_ => (P0_ k_ ∨ w.heap.size ≤ k_)) (.slice (some ad1457) x0_1.length co30) x0_1) := ⟨by rw [← hq_]; exact (zP HO_0.out)⟩; have n1_ : Aside0 (Kept w w29 (fun k_ => P0_ k_)) := ⟨by rw [← hq_]; exact (by repeat (first | (with_reducible first | exact HK.out | apply Kept.alloc | apply Kept.drewN | apply Kept.drew) | exact HK.out))⟩; have n2_ : Aside0 (Below w0.heap.size w0 w29) := ⟨by rw [← hq_]; exact (zQ HB.out)⟩; clear HO_0 HK HB hq_; have HO_0 := n0_; have HK := n1_; have HB := n2_; clear n0_ n1_ n2_))
           replace HO_0 := zA (zH HO_0.out)
           replace HK := zA (Kept.drew HK.out)
           replace HB := zA (zD HB.out)
           have p1460 : 0 ≤ ((ji22) : Int) := zd
           have q1460 : (ji22) < (x0_1.length : Int) := zd
           obtain ⟨ad1460, e1460, hx1460_0⟩ := Kd.at_int (kB HO_0.out).2.2 (ji22) p1460 q1460
           obtain rfl : ad1457 = ad1460 := (by injection e1460)
           replace p1460 := eq_true p1460
           replace q1460 := eq_true q1460
           have p1461 : 0 ≤ ((ji19) : Int) := zd
           have q1461 : (ji19) < (x0_1.length : Int) := zd
           obtain ⟨ad1461, e1461, hx1461_0⟩ := Kd.at_int (kB HO_0.out).2.2 (ji19) p1461 q1461
           obtain rfl : ad1457 = ad1461 := (by injection e1461)
           replace p1461 := eq_true p1461
           replace q1461 := eq_true q1461
           have p27 : 0 ≤ ((ji19) : Int) := zd
           have q27 : ((ji19) : Int) < ((x0_1.length : Int) : Int) := zd
           obtain ⟨go27, co27, eo27, gb27, gl27, cl27, HG27⟩ := Kd.R_form HO_0.out (by omega)
           (first | cases eo27 | (injection eo27 with ea_ en_ ec_; (first | subst ea_ | (injection ea_ with ea_; subst ea_)); subst ec_; clear en_))
           have GB27 := zA gb27
           have GG27 := zA HG27
           clear gb27 gl27 HG27
           have HMgo27 := zA (show (P0_ go27 ∨ w.heap.size ≤ go27) from (HO_0.out.1 _ rfl))
           (first | simp only [add_plain] at hx1457_0 | skip)
           (first | simp only [add_plain] at hx1458_0 | skip)
           (first | simp only [add_plain] at hx1460_0 | skip)
           (first | simp only [add_plain] at hx1461_0 | skip)
           obtain ⟨hx27_0, hf27_0⟩ := Kd.R_celln 0 HO_0.out ((ji19) : Int) p27 q27
           replace p27 := eq_true p27
           replace q27 := eq_true q27
           have HP32 := Kd.R_putn HO_0.out ((ji19) : Int) (rd x0_1 (ji22))
           rw [← Ny1462.out] at HP32
           have HQ32 := zA HP32
           clear HP32
           have p28 : 0 ≤ ((ji22) : Int) := zd
           have q28 : ((ji22) : Int) < ((x0_1.length : Int) : Int) := zd
           obtain ⟨hx28_0, hf28_0⟩ := Kd.R_celln 0 HQ32.out ((ji22) : Int) p28 q28
           replace p28 := eq_true p28
           replace q28 := eq_true q28
           have HP33 := Kd.R_putn HQ32.out ((ji22) : Int) (rd x0_1 (ji19))
           rw [← Ny1463.out] at HP33
           have HQ33 := zA HP33
           clear HP33
           refine start_ (n := 24) (S := fun w' => w'.cell? ⟨go27, ((ji22)).toNat, none⟩ = some (.int .i64 (rd x0_1 (ji22))) ∧ w'.cell? ⟨go27, ((ji19)).toNat, none⟩ = some (.int .i64 (rd x0_1 (ji19)))) (ds := [21, 23]) #[false, false, false, false, false, false, false, false, false, false, false, false, false, false, false, false, false, false, false, false, false, false, false, false] (by kernel_rfl) rfl rfl ⟨hx1460_0, hx1461_0⟩ (fun hHeld => ?_); refine with_tabW slices_siftDownOrdered_int64.tab6 slices_siftDownOrdered_int64.bits6 (fun HT_ HW_ => ?_)
           generalize w29.drew = w31 at HO_0 HK HB GG27 HQ32 HQ33 hf27_0 hf28_0 hx1457_0 hx1458_0 hx1460_0 hx1461_0 hx27_0 hx28_0 hHeld ⊢
           refine zp 0 (some 53) #[true, false, false, false, false, false, false, false, false, false, false, false, false, false, false, false, false, false, false, false, false, false, false, false] HT_.out ?_
           refine zp 1 (some 54) #[true, true, false, false, false, false, false, false, false, false, false, false, false, false, false, false, false, false, false, false, false, false, false, false] HT_.out ?_
           refine zp 2 (some 55) #[true, true, true, false, false, false, false, false, false, false, false, false, false, false, false, false, false, false, false, false, false, false, false, false] HT_.out ?_
           refine zp 3 (some 56) #[true, true, true, true, false, false, false, false, false, false, false, false, false, false, false, false, false, false, false, false, false, false, false, false] HT_.out ?_
           refine zp 4 (some 57) #[true, true, true, true, true, false, false, false, false, false, false, false, false, false, false, false, false, false, false, false, false, false, false, false] HT_.out ?_
           refine zp 5 (some 58) #[true, true, true, true, true, true, false, false, false, false, false, false, false, false, false, false, false, false, false, false, false, false, false, false] HT_.out ?_
           refine zp 6 (some 59) #[true, true, true, true, true, true, true, false, false, false, false, false, false, false, false, false, false, false, false, false, false, false, false, false] HT_.out ?_
           refine zp 7 (some 60) #[true, true, true, true, true, true, true, true, false, false, false, false, false, false, false, false, false, false, false, false, false, false, false, false] HT_.out ?_
           refine zp 8 (some 61) #[true, true, true, true, true, true, true, true, true, false, false, false, false, false, false, false, false, false, false, false, false, false, false, false] HT_.out ?_
           refine zp 9 (some 62) #[true, true, true, true, true, true, true, true, true, true, false, false, false, false, false, false, false, false, false, false, false, false, false, false] HT_.out ?_
           refine zp 10 (some 63) #[true, true, true, true, true, true, true, true, true, true, true, false, false, false, false, false, false, false, false, false, false, false, false, false] HT_.out ?_
           refine zp 11 (some 64) #[true, true, true, true, true, true, true, true, true, true, true, true, false, false, false, false, false, false, false, false, false, false, false, false] HT_.out ?_
           refine zp 12 (some 65) #[true, true, true, true, true, true, true, true, true, true, true, true, true, false, false, false, false, false, false, false, false, false, false, false] HT_.out ?_
           refine zp 14 (some 67) #[true, true, true, true, true, true, true, true, true, true, true, true, true, false, true, false, false, false, false, false, false, false, false, false] HT_.out ?_
           refine zp 15 (some 68) #[true, true, true, true, true, true, true, true, true, true, true, true, true, false, true, true, false, false, false, false, false, false, false, false] HT_.out ?_
           refine zp 16 (some 69) #[true, true, true, true, true, true, true, true, true, true, true, true, true, false, true, true, true, false, false, false, false, false, false, false] HT_.out ?_
           refine zp 17 (some 70) #[true, true, true, true, true, true, true, true, true, true, true, true, true, false, true, true, true, true, false, false, false, false, false, false] HT_.out ?_
           refine zp 18 (some 71) #[true, true, true, true, true, true, true, true, true, true, true, true, true, false, true, true, true, true, true, false, false, false, false, false] HT_.out ?_
           refine zc 13 (some 66) #[true, true, true, true, true, true, true, true, true, true, true, true, true, true, true, true, true, true, true, false, false, false, false, false] HT_.out HW_.out hHeld ?_
           refine zc 19 (some 72) #[true, true, true, true, true, true, true, true, true, true, true, true, true, true, true, true, true, true, true, true, false, false, false, false] HT_.out HW_.out hHeld ?_
           refine zp 20 (some 73) #[true, true, true, true, true, true, true, true, true, true, true, true, true, true, true, true, true, true, true, true, true, false, false, false] HT_.out ?_
           refine last_ (i := 21) (N := none) #[true, true, true, true, true, true, true, true, true, true, true, true, true, true, true, true, true, true, true, true, true, true, false, false] rfl rfl (one_of HT_.out (by kernel_rfl)) (by decide) (fun K hK => ?_)
           refine skip_ (w1 := ?_) (by rfl) rfl ?_ ?_
           rotate_left
           ·go_simp
            rfl
           refine hK.out _ _ ?_
           clear hK K
           refine zp 22 (some 74) #[true, true, true, true, true, true, true, true, true, true, true, true, true, true, true, true, true, true, true, true, true, true, true, false] HT_.out ?_
           refine last_ (i := 23) (N := none) #[true, true, true, true, true, true, true, true, true, true, true, true, true, true, true, true, true, true, true, true, true, true, true, true] rfl rfl (one_of HT_.out (by kernel_rfl)) (by decide) (fun K hK => ?_)
           refine skip_ (w1 := ?_) (by rfl) rfl ?_ ?_
           rotate_left
           ·go_simp
            rfl
           refine hK.out _ _ ?_
           clear hK K
           refine done_ (done_of HT_.out (by kernel_rfl)) ?_
           try go_wp2
           go_roundg kj5
           case measure => have := HK1.out; have := HJ5.out; omega
           case rel => exact ⟨(y1463), (wrap64 ((wrap64 ((wrap64 (2 * x8_1)) + 1)) + 1)), zs, H', ⟨by have := HK1.out; have := HJ5.out; omega⟩, ⟨zP HQ33.out⟩, ⟨by repeat (first | (with_reducible first | exact HK.out | apply Kept.alloc | apply Kept.drewN | apply Kept.drew | refine Kept.setCell ?_ HMgo27.out _ | refine Kept.setCell ?_ HMgo27.out _) | exact HK.out)⟩, ⟨zV HB.out GB27.out GB27.out⟩⟩
          replace c26 := Bool.eq_false_iff.mpr c26
          subst c26
          rw [if_neg (show ¬ (false = true) by decide)] at H
          obtain rfl := Option.some.inj H
          try go_wp2
          replace HO_0 := zA (zH HO_0.out)
          replace HK := zA (Kept.drew HK.out)
          replace HB := zA (zD HB.out)
          obtain ⟨Ao35, co35, eo35⟩ := kM HO_0.out
          (first | subst eo35 | (injection eo35 with f1_ f2_ f3_; have f4_ := f1_.symm; have f5_ := f3_.symm; clear f1_ f2_ f3_; subst f4_; subst f5_))
          have p1457 : 0 ≤ ((ji19) : Int) := zd
          have q1457 : (ji19) < (x0_1.length : Int) := zd
          obtain ⟨ad1457, e1457, hx1457_0⟩ := Kd.at_int (kB HO_0.out).2.2 (ji19) p1457 q1457
          cases e1457
          replace p1457 := eq_true p1457
          replace q1457 := eq_true q1457
          have p1458 : 0 ≤ ((ji22) : Int) := zd
          have q1458 : (ji22) < (x0_1.length : Int) := zd
          obtain ⟨ad1458, e1458, hx1458_0⟩ := Kd.at_int (kB HO_0.out).2.2 (ji22) p1458 q1458
          obtain rfl : ad1457 = ad1458 := (by injection e1458)
          replace p1458 := eq_true p1458
          replace q1458 := eq_true q1458
          refine start_ (n := 14) (S := fun w' => w'.cell? (ad1457.add ((ji19)).toNat) = some (.int .i64 (rd x0_1 (ji19))) ∧ w'.cell? (ad1457.add ((ji22)).toNat) = some (.int .i64 (rd x0_1 (ji22)))) (ds := []) #[false, false, false, false, false, false, false, false, false, false, false, false, false, false] (by kernel_rfl) rfl rfl ⟨hx1457_0, hx1458_0⟩ (fun hHeld => ?_); refine with_tabW slices_siftDownOrdered_int64.tab5 slices_siftDownOrdered_int64.bits5 (fun HT_ HW_ => ?_)
          generalize wc.drew = w34 at HO_0 HK HB hx1457_0 hx1458_0 hHeld ⊢
          refine zp 0 (some 39) #[true, false, false, false, false, false, false, false, false, false, false, false, false, false] HT_.out ?_
          refine zp 1 (some 40) #[true, true, false, false, false, false, false, false, false, false, false, false, false, false] HT_.out ?_
          refine zp 2 (some 41) #[true, true, true, false, false, false, false, false, false, false, false, false, false, false] HT_.out ?_
          refine zp 3 (some 42) #[true, true, true, true, false, false, false, false, false, false, false, false, false, false] HT_.out ?_
          refine zp 4 (some 43) #[true, true, true, true, true, false, false, false, false, false, false, false, false, false] HT_.out ?_
          refine zp 6 (some 45) #[true, true, true, true, true, false, true, false, false, false, false, false, false, false] HT_.out ?_
          refine zp 7 (some 46) #[true, true, true, true, true, false, true, true, false, false, false, false, false, false] HT_.out ?_
          refine zp 8 (some 47) #[true, true, true, true, true, false, true, true, true, false, false, false, false, false] HT_.out ?_
          refine zp 9 (some 48) #[true, true, true, true, true, false, true, true, true, true, false, false, false, false] HT_.out ?_
          refine zp 10 (some 49) #[true, true, true, true, true, false, true, true, true, true, true, false, false, false] HT_.out ?_
          refine zc 5 (some 44) #[true, true, true, true, true, true, true, true, true, true, true, false, false, false] HT_.out HW_.out hHeld ?_
          refine zc 11 (some 50) #[true, true, true, true, true, true, true, true, true, true, true, true, false, false] HT_.out HW_.out hHeld ?_
          refine one_ (i := 12) (N := some 51) #[true, true, true, true, true, true, true, true, true, true, true, true, true, false] rfl rfl (one_of HT_.out (by kernel_rfl)) (by decide) (fun K hK => ?_)
          refine goes_ Tryd.func174 (by kernel_rfl) rfl #[.int .i64 (rd x0_1 (ji19)), .int .i64 (rd x0_1 (ji22))] (by rfl) rfl rfl (by (try simp only [List.map_toArray, List.map_cons, List.map_nil]); first | done | (simp only [hji19, hji22]; rfl) | rfl | (simp only [List.length_drop, List.length_take]; rfl)) ?_
          with_reducible refine (cmp_Less_int64.calls (rd x0_1 (ji19)) (rd x0_1 (ji22)) false _ A25.out).mono ?_
          rintro e w' ⟨rfl, ⟨nd, rfl⟩⟩
          refine ⟨_, rfl, ?_⟩
          refine hK.out _ _ ⟨hHeld.1, hHeld.2⟩ (fun hHeld => ?_)
          clear hK K
          refine norm_ (a' := ?_) ?_ ?_
          rotate_left
          ·show Act.put _ (some 51) _ = _
           simp only [Act.put, zL, zM, zN, i64_w, i32_w]
           rfl
          refine zp 13 (some 52) #[true, true, true, true, true, true, true, true, true, true, true, true, true, true] HT_.out ?_
          refine done_ (done_of HT_.out (by kernel_rfl)) ?_
          try go_wp2
          first | go_end0 | ((try simp only [Exit.inBlock, Exit.then]); refine bodyPost_ret (results_none rfl _ _ _) rfl ?_)
          exact ⟨by first | rfl | (simp [errW_none, errW_some] <;> rfl) | (simp only [← hji19, ← hji22]; first | rfl | (simp [errW_none, errW_some] <;> rfl)) | (simp [*, errW_none, errW_some] <;> rfl), zP HO_0.out, zQ HB.out, by repeat (first | (with_reducible first | exact HK.out | apply Kept.alloc | apply Kept.drewN | apply Kept.drew) | exact HK.out)⟩
         rw [if_neg c24] at H
         exact absurd H (by simp)
        rw [if_neg c23] at H
        exact absurd H (by simp)
       rw [if_neg c21] at H
       exact absurd H (by simp)
      rw [if_neg c20] at H
      exact absurd H (by simp)
     replace c18 := Bool.eq_false_iff.mpr c18
     subst c18
     rw [if_neg (show ¬ (false = true) by decide)] at H
     obtain ⟨ji36, hji36⟩ : ∃ j_ : Int, (wrap64 (a3 + x8_1)) = j_ := ⟨_, rfl⟩
     replace H : (if 0 ≤ (ji36) then (if (ji36) < (x0_1.length : Int) then (if 0 ≤ (wrap64 (a3 + (wrap64 ((wrap64 (2 * x8_1)) + 1)))) then (if (wrap64 (a3 + (wrap64 ((wrap64 (2 * x8_1)) + 1)))) < (x0_1.length : Int) then ((cmp_Less_int64.f (rd x0_1 (ji36)) (rd x0_1 (wrap64 (a3 + (wrap64 ((wrap64 (2 * x8_1)) + 1)))))).bind fun t1466 => (if t1466 = true then (slices_siftDownOrdered_int64.l0 kj5 ((x0_1.set ((ji36) : Int).toNat (rd x0_1 (wrap64 (a3 + (wrap64 ((wrap64 (2 * x8_1)) + 1)))))).set ((wrap64 (a3 + (wrap64 ((wrap64 (2 * x8_1)) + 1)))) : Int).toNat (rd x0_1 (ji36))) a2 a3 (wrap64 ((wrap64 (2 * x8_1)) + 1))) else (some x0_1))) else (none)) else (none)) else (none)) else (none)) = some r := by first | (rw [hji36] at H; exact H) | (simp only [hji36] at H ⊢; exact H)
     have hji36w : (IntKind.i64.wrap (a3 + x8_1)) = ji36 := (i64_w _).trans hji36
     by_cases c37 : 0 ≤ (ji36)
     ·rw [if_pos c37] at H
      have c37b0 : decide (0 ≤ (ji36)) = true := decide_eq_true c37
      clear c37
      by_cases c38 : (ji36) < (x0_1.length : Int)
      ·rw [if_pos c38] at H
       have c38b0 : decide ((ji36) < (x0_1.length : Int)) = true := decide_eq_true c38
       clear c38
       obtain ⟨ji39, hji39⟩ : ∃ j_ : Int, (wrap64 (a3 + (wrap64 ((wrap64 (2 * x8_1)) + 1)))) = j_ := ⟨_, rfl⟩
       replace H : (if 0 ≤ (ji39) then (if (ji39) < (x0_1.length : Int) then ((cmp_Less_int64.f (rd x0_1 (ji36)) (rd x0_1 (ji39))).bind fun t1466 => (if t1466 = true then (slices_siftDownOrdered_int64.l0 kj5 ((x0_1.set ((ji36) : Int).toNat (rd x0_1 (ji39))).set ((ji39) : Int).toNat (rd x0_1 (ji36))) a2 a3 (wrap64 ((wrap64 (2 * x8_1)) + 1))) else (some x0_1))) else (none)) else (none)) = some r := by first | (rw [hji39] at H; exact H) | (simp only [hji39] at H ⊢; exact H)
       have hji39w : (IntKind.i64.wrap (a3 + (wrap64 ((wrap64 (2 * x8_1)) + 1)))) = ji39 := (i64_w _).trans hji39
       by_cases c40 : 0 ≤ (ji39)
       ·rw [if_pos c40] at H
        have c40b0 : decide (0 ≤ (ji39)) = true := decide_eq_true c40
        clear c40
        by_cases c41 : (ji39) < (x0_1.length : Int)
        ·rw [if_pos c41] at H
         have c41b0 : decide ((ji39) < (x0_1.length : Int)) = true := decide_eq_true c41
         clear c41
         obtain ⟨t1466, A42, H⟩ := zb H
         try dsimp only at H
         by_cases c43 : t1466 = true
         ·subst c43
          rw [if_pos rfl] at H
          obtain ⟨y1469, hy1469⟩ : ∃ y_ : List Int, y_ = (x0_1.set ((ji36) : Int).toNat (rd x0_1 (ji39))) := ⟨_, rfl⟩
          replace H : (slices_siftDownOrdered_int64.l0 kj5 (y1469.set ((ji39) : Int).toNat (rd x0_1 (ji36))) a2 a3 (wrap64 ((wrap64 (2 * x8_1)) + 1))) = some r := zy hy1469 H
          have Ny1469 := zA hy1469
          clear hy1469
          obtain ⟨y1470, hy1470⟩ : ∃ y_ : List Int, y_ = (y1469.set ((ji39) : Int).toNat (rd x0_1 (ji36))) := ⟨_, rfl⟩
          replace H : (slices_siftDownOrdered_int64.l0 kj5 y1470 a2 a3 (wrap64 ((wrap64 (2 * x8_1)) + 1))) = some r := zy hy1470 H
          have Ny1470 := zA hy1470
          clear hy1470
          have H' := zA H
          clear H
          try go_wp2
          replace HO_0 := zA (zH HO_0.out)
          replace HK := zA (Kept.drew HK.out)
          replace HB := zA (zD HB.out)
          obtain ⟨Ao47, co47, eo47⟩ := kM HO_0.out
          (first | subst eo47 | (injection eo47 with f1_ f2_ f3_; have f4_ := f1_.symm; have f5_ := f3_.symm; clear f1_ f2_ f3_; subst f4_; subst f5_))
          have p1464 : 0 ≤ ((ji36) : Int) := zd
          have q1464 : (ji36) < (x0_1.length : Int) := zd
          obtain ⟨ad1464, e1464, hx1464_0⟩ := Kd.at_int (kB HO_0.out).2.2 (ji36) p1464 q1464
          cases e1464
          replace p1464 := eq_true p1464
          replace q1464 := eq_true q1464
          have p1465 : 0 ≤ ((ji39) : Int) := zd
          have q1465 : (ji39) < (x0_1.length : Int) := zd
          obtain ⟨ad1465, e1465, hx1465_0⟩ := Kd.at_int (kB HO_0.out).2.2 (ji39) p1465 q1465
          obtain rfl : ad1464 = ad1465 := (by injection e1465)
          replace p1465 := eq_true p1465
          replace q1465 := eq_true q1465
          refine start_ (n := 14) (S := fun w' => w'.cell? (ad1464.add ((ji36)).toNat) = some (.int .i64 (rd x0_1 (ji36))) ∧ w'.cell? (ad1464.add ((ji39)).toNat) = some (.int .i64 (rd x0_1 (ji39)))) (ds := []) #[false, false, false, false, false, false, false, false, false, false, false, false, false, false] (by kernel_rfl) rfl rfl ⟨hx1464_0, hx1465_0⟩ (fun hHeld => ?_); refine with_tabW slices_siftDownOrdered_int64.tab5 slices_siftDownOrdered_int64.bits5 (fun HT_ HW_ => ?_)
          generalize wc.drew = w46 at HO_0 HK HB hx1464_0 hx1465_0 hHeld ⊢
          refine zp 0 (some 39) #[true, false, false, false, false, false, false, false, false, false, false, false, false, false] HT_.out ?_
          refine zp 1 (some 40) #[true, true, false, false, false, false, false, false, false, false, false, false, false, false] HT_.out ?_
          refine zp 2 (some 41) #[true, true, true, false, false, false, false, false, false, false, false, false, false, false] HT_.out ?_
          refine zp 3 (some 42) #[true, true, true, true, false, false, false, false, false, false, false, false, false, false] HT_.out ?_
          refine zp 4 (some 43) #[true, true, true, true, true, false, false, false, false, false, false, false, false, false] HT_.out ?_
          refine zp 6 (some 45) #[true, true, true, true, true, false, true, false, false, false, false, false, false, false] HT_.out ?_
          refine zp 7 (some 46) #[true, true, true, true, true, false, true, true, false, false, false, false, false, false] HT_.out ?_
          refine zp 8 (some 47) #[true, true, true, true, true, false, true, true, true, false, false, false, false, false] HT_.out ?_
          refine zp 9 (some 48) #[true, true, true, true, true, false, true, true, true, true, false, false, false, false] HT_.out ?_
          refine zp 10 (some 49) #[true, true, true, true, true, false, true, true, true, true, true, false, false, false] HT_.out ?_
          refine zc 5 (some 44) #[true, true, true, true, true, true, true, true, true, true, true, false, false, false] HT_.out HW_.out hHeld ?_
          refine zc 11 (some 50) #[true, true, true, true, true, true, true, true, true, true, true, true, false, false] HT_.out HW_.out hHeld ?_
          refine one_ (i := 12) (N := some 51) #[true, true, true, true, true, true, true, true, true, true, true, true, true, false] rfl rfl (one_of HT_.out (by kernel_rfl)) (by decide) (fun K hK => ?_)
          refine goes_ Tryd.func174 (by kernel_rfl) rfl #[.int .i64 (rd x0_1 (ji36)), .int .i64 (rd x0_1 (ji39))] (by rfl) rfl rfl (by (try simp only [List.map_toArray, List.map_cons, List.map_nil]); first | done | (simp only [hji36, hji39]; rfl) | rfl | (simp only [List.length_drop, List.length_take]; rfl)) ?_
          with_reducible refine (cmp_Less_int64.calls (rd x0_1 (ji36)) (rd x0_1 (ji39)) true _ A42.out).mono ?_
          rintro e w' ⟨rfl, ⟨nd, rfl⟩⟩
          refine ⟨_, rfl, ?_⟩
          refine hK.out _ _ ⟨hHeld.1, hHeld.2⟩ (fun hHeld => ?_)
          clear hK K
          refine norm_ (a' := ?_) ?_ ?_
          rotate_left
          ·show Act.put _ (some 51) _ = _
           simp only [Act.put, zL, zM, zN, i64_w, i32_w]
           rfl
          refine zp 13 (some 52) #[true, true, true, true, true, true, true, true, true, true, true, true, true, true] HT_.out ?_
          refine done_ (done_of HT_.out (by kernel_rfl)) ?_
          try go_wp2
          (try (rw [drewN_self w46]; generalize hq_ : World.drewN w46 _ = w46; have n0_ : Aside0 (Kd.R (Kd.int .i64) 2 w46 w0.heap.size (fun k_ => (P0_ k_ ∨ w.heap.size ≤ k_)) (.slice (some ad1464) x0_1.length co47) x0_1) := ⟨by rw [← hq_]; exact (zP HO_0.out)⟩; have n1_ : Aside0 (Kept w w46 (fun k_ => P0_ k_)) := ⟨by rw [← hq_]; exact (by repeat (first | (with_reducible first | exact HK.out | apply Kept.alloc | apply Kept.drewN | apply Kept.drew) | exact HK.out))⟩; have n2_ : Aside0 (Below w0.heap.size w0 w46) := ⟨by rw [← hq_]; exact (zQ HB.out)⟩; clear HO_0 HK HB hq_; have HO_0 := n0_; have HK := n1_; have HB := n2_; clear n0_ n1_ n2_))
          replace HO_0 := zA (zH HO_0.out)
          replace HK := zA (Kept.drew HK.out)
          replace HB := zA (zD HB.out)
          have p1467 : 0 ≤ ((ji39) : Int) := zd
          have q1467 : (ji39) < (x0_1.length : Int) := zd
          obtain ⟨ad1467, e1467, hx1467_0⟩ := Kd.at_int (kB HO_0.out).2.2 (ji39) p1467 q1467
          obtain rfl : ad1464 = ad1467 := (by injection e1467)
          replace p1467 := eq_true p1467
          replace q1467 := eq_true q1467
          have p1468 : 0 ≤ ((ji36) : Int) := zd
          have q1468 : (ji36) < (x0_1.length : Int) := zd
          obtain ⟨ad1468, e1468, hx1468_0⟩ := Kd.at_int (kB HO_0.out).2.2 (ji36) p1468 q1468
          obtain rfl : ad1464 = ad1468 := (by injection e1468)
          replace p1468 := eq_true p1468
          replace q1468 := eq_true q1468
          have p44 : 0 ≤ ((ji36) : Int) := zd
          have q44 : ((ji36) : Int) < ((x0_1.length : Int) : Int) := zd
          obtain ⟨go44, co44, eo44, gb44, gl44, cl44, HG44⟩ := Kd.R_form HO_0.out (by omega)
          (first | cases eo44 | (injection eo44 with ea_ en_ ec_; (first | subst ea_ | (injection ea_ with ea_; subst ea_)); subst ec_; clear en_))
          have GB44 := zA gb44
          have GG44 := zA HG44
          clear gb44 gl44 HG44
          have HMgo44 := zA (show (P0_ go44 ∨ w.heap.size ≤ go44) from (HO_0.out.1 _ rfl))
          (first | simp only [add_plain] at hx1464_0 | skip)
          (first | simp only [add_plain] at hx1465_0 | skip)
          (first | simp only [add_plain] at hx1467_0 | skip)
          (first | simp only [add_plain] at hx1468_0 | skip)
          obtain ⟨hx44_0, hf44_0⟩ := Kd.R_celln 0 HO_0.out ((ji36) : Int) p44 q44
          replace p44 := eq_true p44
          replace q44 := eq_true q44
          have HP49 := Kd.R_putn HO_0.out ((ji36) : Int) (rd x0_1 (ji39))
          rw [← Ny1469.out] at HP49
          have HQ49 := zA HP49
          clear HP49
          have p45 : 0 ≤ ((ji39) : Int) := zd
          have q45 : ((ji39) : Int) < ((x0_1.length : Int) : Int) := zd
          obtain ⟨hx45_0, hf45_0⟩ := Kd.R_celln 0 HQ49.out ((ji39) : Int) p45 q45
          replace p45 := eq_true p45
          replace q45 := eq_true q45
          have HP50 := Kd.R_putn HQ49.out ((ji39) : Int) (rd x0_1 (ji36))
          rw [← Ny1470.out] at HP50
          have HQ50 := zA HP50
          clear HP50
          refine start_ (n := 24) (S := fun w' => w'.cell? ⟨go44, ((ji39)).toNat, none⟩ = some (.int .i64 (rd x0_1 (ji39))) ∧ w'.cell? ⟨go44, ((ji36)).toNat, none⟩ = some (.int .i64 (rd x0_1 (ji36)))) (ds := [21, 23]) #[false, false, false, false, false, false, false, false, false, false, false, false, false, false, false, false, false, false, false, false, false, false, false, false] (by kernel_rfl) rfl rfl ⟨hx1467_0, hx1468_0⟩ (fun hHeld => ?_); refine with_tabW slices_siftDownOrdered_int64.tab6 slices_siftDownOrdered_int64.bits6 (fun HT_ HW_ => ?_)
          generalize w46.drew = w48 at HO_0 HK HB GG44 HQ49 HQ50 hf44_0 hf45_0 hx1464_0 hx1465_0 hx1467_0 hx1468_0 hx44_0 hx45_0 hHeld ⊢
          refine zp 0 (some 53) #[true, false, false, false, false, false, false, false, false, false, false, false, false, false, false, false, false, false, false, false, false, false, false, false] HT_.out ?_
          refine zp 1 (some 54) #[true, true, false, false, false, false, false, false, false, false, false, false, false, false, false, false, false, false, false, false, false, false, false, false] HT_.out ?_
          refine zp 2 (some 55) #[true, true, true, false, false, false, false, false, false, false, false, false, false, false, false, false, false, false, false, false, false, false, false, false] HT_.out ?_
          refine zp 3 (some 56) #[true, true, true, true, false, false, false, false, false, false, false, false, false, false, false, false, false, false, false, false, false, false, false, false] HT_.out ?_
          refine zp 4 (some 57) #[true, true, true, true, true, false, false, false, false, false, false, false, false, false, false, false, false, false, false, false, false, false, false, false] HT_.out ?_
          refine zp 5 (some 58) #[true, true, true, true, true, true, false, false, false, false, false, false, false, false, false, false, false, false, false, false, false, false, false, false] HT_.out ?_
          refine zp 6 (some 59) #[true, true, true, true, true, true, true, false, false, false, false, false, false, false, false, false, false, false, false, false, false, false, false, false] HT_.out ?_
          refine zp 7 (some 60) #[true, true, true, true, true, true, true, true, false, false, false, false, false, false, false, false, false, false, false, false, false, false, false, false] HT_.out ?_
          refine zp 8 (some 61) #[true, true, true, true, true, true, true, true, true, false, false, false, false, false, false, false, false, false, false, false, false, false, false, false] HT_.out ?_
          refine zp 9 (some 62) #[true, true, true, true, true, true, true, true, true, true, false, false, false, false, false, false, false, false, false, false, false, false, false, false] HT_.out ?_
          refine zp 10 (some 63) #[true, true, true, true, true, true, true, true, true, true, true, false, false, false, false, false, false, false, false, false, false, false, false, false] HT_.out ?_
          refine zp 11 (some 64) #[true, true, true, true, true, true, true, true, true, true, true, true, false, false, false, false, false, false, false, false, false, false, false, false] HT_.out ?_
          refine zp 12 (some 65) #[true, true, true, true, true, true, true, true, true, true, true, true, true, false, false, false, false, false, false, false, false, false, false, false] HT_.out ?_
          refine zp 14 (some 67) #[true, true, true, true, true, true, true, true, true, true, true, true, true, false, true, false, false, false, false, false, false, false, false, false] HT_.out ?_
          refine zp 15 (some 68) #[true, true, true, true, true, true, true, true, true, true, true, true, true, false, true, true, false, false, false, false, false, false, false, false] HT_.out ?_
          refine zp 16 (some 69) #[true, true, true, true, true, true, true, true, true, true, true, true, true, false, true, true, true, false, false, false, false, false, false, false] HT_.out ?_
          refine zp 17 (some 70) #[true, true, true, true, true, true, true, true, true, true, true, true, true, false, true, true, true, true, false, false, false, false, false, false] HT_.out ?_
          refine zp 18 (some 71) #[true, true, true, true, true, true, true, true, true, true, true, true, true, false, true, true, true, true, true, false, false, false, false, false] HT_.out ?_
          refine zc 13 (some 66) #[true, true, true, true, true, true, true, true, true, true, true, true, true, true, true, true, true, true, true, false, false, false, false, false] HT_.out HW_.out hHeld ?_
          refine zc 19 (some 72) #[true, true, true, true, true, true, true, true, true, true, true, true, true, true, true, true, true, true, true, true, false, false, false, false] HT_.out HW_.out hHeld ?_
          refine zp 20 (some 73) #[true, true, true, true, true, true, true, true, true, true, true, true, true, true, true, true, true, true, true, true, true, false, false, false] HT_.out ?_
          refine last_ (i := 21) (N := none) #[true, true, true, true, true, true, true, true, true, true, true, true, true, true, true, true, true, true, true, true, true, true, false, false] rfl rfl (one_of HT_.out (by kernel_rfl)) (by decide) (fun K hK => ?_)
          refine skip_ (w1 := ?_) (by rfl) rfl ?_ ?_
          rotate_left
          ·go_simp
           rfl
          refine hK.out _ _ ?_
          clear hK K
          refine zp 22 (some 74) #[true, true, true, true, true, true, true, true, true, true, true, true, true, true, true, true, true, true, true, true, true, true, true, false] HT_.out ?_
          refine last_ (i := 23) (N := none) #[true, true, true, true, true, true, true, true, true, true, true, true, true, true, true, true, true, true, true, true, true, true, true, true] rfl rfl (one_of HT_.out (by kernel_rfl)) (by decide) (fun K hK => ?_)
          refine skip_ (w1 := ?_) (by rfl) rfl ?_ ?_
          rotate_left
          ·go_simp
           rfl
          refine hK.out _ _ ?_
          clear hK K
          refine done_ (done_of HT_.out (by kernel_rfl)) ?_
          try go_wp2
          go_roundg kj5
          case measure => have := HK1.out; have := HJ5.out; omega
          case rel => exact ⟨(y1470), ((wrap64 ((wrap64 (2 * x8_1)) + 1))), zs, H', ⟨by have := HK1.out; have := HJ5.out; omega⟩, ⟨zP HQ50.out⟩, ⟨by repeat (first | (with_reducible first | exact HK.out | apply Kept.alloc | apply Kept.drewN | apply Kept.drew | refine Kept.setCell ?_ HMgo44.out _ | refine Kept.setCell ?_ HMgo44.out _) | exact HK.out)⟩, ⟨zV HB.out GB44.out GB44.out⟩⟩
         replace c43 := Bool.eq_false_iff.mpr c43
         subst c43
         rw [if_neg (show ¬ (false = true) by decide)] at H
         obtain rfl := Option.some.inj H
         try go_wp2
         replace HO_0 := zA (zH HO_0.out)
         replace HK := zA (Kept.drew HK.out)
         replace HB := zA (zD HB.out)
         obtain ⟨Ao52, co52, eo52⟩ := kM HO_0.out
         (first | subst eo52 | (injection eo52 with f1_ f2_ f3_; have f4_ := f1_.symm; have f5_ := f3_.symm; clear f1_ f2_ f3_; subst f4_; subst f5_))
         have p1464 : 0 ≤ ((ji36) : Int) := zd
         have q1464 : (ji36) < (x0_1.length : Int) := zd
         obtain ⟨ad1464, e1464, hx1464_0⟩ := Kd.at_int (kB HO_0.out).2.2 (ji36) p1464 q1464
         cases e1464
         replace p1464 := eq_true p1464
         replace q1464 := eq_true q1464
         have p1465 : 0 ≤ ((ji39) : Int) := zd
         have q1465 : (ji39) < (x0_1.length : Int) := zd
         obtain ⟨ad1465, e1465, hx1465_0⟩ := Kd.at_int (kB HO_0.out).2.2 (ji39) p1465 q1465
         obtain rfl : ad1464 = ad1465 := (by injection e1465)
         replace p1465 := eq_true p1465
         replace q1465 := eq_true q1465
         refine start_ (n := 14) (S := fun w' => w'.cell? (ad1464.add ((ji36)).toNat) = some (.int .i64 (rd x0_1 (ji36))) ∧ w'.cell? (ad1464.add ((ji39)).toNat) = some (.int .i64 (rd x0_1 (ji39)))) (ds := []) #[false, false, false, false, false, false, false, false, false, false, false, false, false, false] (by kernel_rfl) rfl rfl ⟨hx1464_0, hx1465_0⟩ (fun hHeld => ?_); refine with_tabW slices_siftDownOrdered_int64.tab5 slices_siftDownOrdered_int64.bits5 (fun HT_ HW_ => ?_)
         generalize wc.drew = w51 at HO_0 HK HB hx1464_0 hx1465_0 hHeld ⊢
         refine zp 0 (some 39) #[true, false, false, false, false, false, false, false, false, false, false, false, false, false] HT_.out ?_
         refine zp 1 (some 40) #[true, true, false, false, false, false, false, false, false, false, false, false, false, false] HT_.out ?_
         refine zp 2 (some 41) #[true, true, true, false, false, false, false, false, false, false, false, false, false, false] HT_.out ?_
         refine zp 3 (some 42) #[true, true, true, true, false, false, false, false, false, false, false, false, false, false] HT_.out ?_
         refine zp 4 (some 43) #[true, true, true, true, true, false, false, false, false, false, false, false, false, false] HT_.out ?_
         refine zp 6 (some 45) #[true, true, true, true, true, false, true, false, false, false, false, false, false, false] HT_.out ?_
         refine zp 7 (some 46) #[true, true, true, true, true, false, true, true, false, false, false, false, false, false] HT_.out ?_
         refine zp 8 (some 47) #[true, true, true, true, true, false, true, true, true, false, false, false, false, false] HT_.out ?_
         refine zp 9 (some 48) #[true, true, true, true, true, false, true, true, true, true, false, false, false, false] HT_.out ?_
         refine zp 10 (some 49) #[true, true, true, true, true, false, true, true, true, true, true, false, false, false] HT_.out ?_
         refine zc 5 (some 44) #[true, true, true, true, true, true, true, true, true, true, true, false, false, false] HT_.out HW_.out hHeld ?_
         refine zc 11 (some 50) #[true, true, true, true, true, true, true, true, true, true, true, true, false, false] HT_.out HW_.out hHeld ?_
         refine one_ (i := 12) (N := some 51) #[true, true, true, true, true, true, true, true, true, true, true, true, true, false] rfl rfl (one_of HT_.out (by kernel_rfl)) (by decide) (fun K hK => ?_)
         refine goes_ Tryd.func174 (by kernel_rfl) rfl #[.int .i64 (rd x0_1 (ji36)), .int .i64 (rd x0_1 (ji39))] (by rfl) rfl rfl (by (try simp only [List.map_toArray, List.map_cons, List.map_nil]); first | done | (simp only [hji36, hji39]; rfl) | rfl | (simp only [List.length_drop, List.length_take]; rfl)) ?_
         with_reducible refine (cmp_Less_int64.calls (rd x0_1 (ji36)) (rd x0_1 (ji39)) false _ A42.out).mono ?_
         rintro e w' ⟨rfl, ⟨nd, rfl⟩⟩
         refine ⟨_, rfl, ?_⟩
         refine hK.out _ _ ⟨hHeld.1, hHeld.2⟩ (fun hHeld => ?_)
         clear hK K
         refine norm_ (a' := ?_) ?_ ?_
         rotate_left
         ·show Act.put _ (some 51) _ = _
          simp only [Act.put, zL, zM, zN, i64_w, i32_w]
          rfl
         refine zp 13 (some 52) #[true, true, true, true, true, true, true, true, true, true, true, true, true, true] HT_.out ?_
         refine done_ (done_of HT_.out (by kernel_rfl)) ?_
         try go_wp2
         first | go_end0 | ((try simp only [Exit.inBlock, Exit.then]); refine bodyPost_ret (results_none rfl _ _ _) rfl ?_)
         exact ⟨by first | rfl | (simp [errW_none, errW_some] <;> rfl) | (simp only [← hji36, ← hji39]; first | rfl | (simp [errW_none, errW_some] <;> rfl)) | (simp [*, errW_none, errW_some] <;> rfl), zP HO_0.out, zQ HB.out, by repeat (first | (with_reducible first | exact HK.out | apply Kept.alloc | apply Kept.drewN | apply Kept.drew) | exact HK.out)⟩
        rw [if_neg c41] at H
        exact absurd H (by simp)
       rw [if_neg c40] at H
       exact absurd H (by simp)
      rw [if_neg c38] at H
      exact absurd H (by simp)
     rw [if_neg c37] at H
     exact absurd H (by simp)

end Go.Proofs.YtfnnnopbcdiibaaDoor.PAll
