-- Printed by a program of the session (wip/tools/pgen.py) out of the translation. Not trusted: Lean checks it.
import Derived.Test.YthgapkbkhoeleaaDoorPAllx0
import Derived.Test.YthgapkbkhoeleaaDoorPAllx1
import Derived.Test.YthgapkbkhoeleaaDoorPAllx7
namespace Go.Proofs.YthgapkbkhoeleaaDoor.PAll
open Go.RowKit Go.Proofs.YthgapkbkhoeleaaDoor.T Go.Proofs.YthgapkbkhoeleaaDoorW.PrintWords Go.Proofs.YthgapkbkhoeleaaDoorW.PrintLast Go.Proofs.YthgapkbkhoeleaaDoorW.PrintMore
attribute [local go_sem] max2_int min2_int max_two min_two max_three min_three max_four min_four   -- for this text's walks alone
set_option linter.unusedVariables false
set_option linter.unusedSimpArgs false

/-! ### impl_closure: function 190 -/
mutual
def impl_closure.l0 : Nat → List Int → Int → Int → Option (List Int)
 | 0, _, _, _ => none
 | k + 1, x3, x10, x11 => if x11 < x10 then (if 0 ≤ x11 then (if x11 < (x3.length : Int) then ((impl_one.f x11).bind fun t1123 => (impl_closure.l0 k (x3.set (x11 : Int).toNat (Go.bits .or .i64 (rd x3 x11) t1123)) x10 (wrap64 (x11 + 1)))) else (none)) else (none)) else (impl_closure.l1 k x3 (x3.length : Int) 0)
def impl_closure.l1 : Nat → List Int → Int → Int → Option (List Int)
 | 0, _, _, _ => none
 | k + 1, x3, x24, x25 => if x25 < x24 then (impl_closure.l2 k x3 x25 x24 x25 (x3.length : Int) 0) else (some x3)
def impl_closure.l2 : Nat → List Int → Int → Int → Int → Int → Int → Option (List Int)
 | 0, _, _, _, _, _, _ => none
 | k + 1, x3, x5, x24, x25, x29, x30 => if x30 < x29 then (if 0 ≤ x30 then (if x30 < (x3.length : Int) then ((impl_has.f (rd x3 x30) x5).bind fun t1126 => (if t1126 = true then (if 0 ≤ x5 then (if x5 < (x3.length : Int) then (impl_closure.l2 k (x3.set (x30 : Int).toNat (Go.bits .or .i64 (rd x3 x30) (rd x3 x5))) x5 x24 x25 x29 (wrap64 (x30 + 1))) else (none)) else (none)) else (impl_closure.l2 k x3 x5 x24 x25 x29 (wrap64 (x30 + 1))))) else (none)) else (none)) else (impl_closure.l1 k x3 x24 (wrap64 (x25 + 1)))
end
def impl_closure.f (k : Nat) (l0 : List Int) : Option (List Int) := (slices_Clone_int64_int64.f l0).bind fun t1119 => (impl_closure.l0 k t1119 (t1119.length : Int) 0)

def impl_closure.T5 : Bool × List (List Nat × List Nat) := (true, [([], []), ([], []), ([0, 1], [0, 1]), ([2], [2]), ([], []), ([4], [4]), ([3, 5], [3, 5]), ([0, 1, 0, 1, 2, 3, 4, 5, 6], [0, 1]), ([7, 6, 5, 0, 1, 2, 3, 4, 5, 6], [6, 7])])
def impl_closure.B5 : List Nat := [0, 0, 3, 7, 0, 16, 63, 127, 255]
theorem impl_closure.tab5 : rtab .any (opsOf Tryd.f190 5) = impl_closure.T5 := by kernel_rfl
theorem impl_closure.bits5 : waitsOk impl_closure.T5.2 impl_closure.B5 = true := by kernel_rfl
def impl_closure.T14 : Bool × List (List Nat × List Nat) := (true, [([], []), ([], []), ([0, 1], [0, 1]), ([2], [2]), ([], []), ([], []), ([4, 5], [4, 5]), ([6], [6]), ([3, 7], [3, 7]), ([0, 1, 0, 1, 2, 3, 4, 5, 6, 7, 8], [0, 1]), ([9, 8, 0, 1, 2, 3, 4, 5, 6, 7, 8], [8, 9])])
def impl_closure.B14 : List Nat := [0, 0, 3, 7, 0, 0, 48, 112, 255, 511, 1023]
theorem impl_closure.tab14 : rtab .any (opsOf Tryd.f190 14) = impl_closure.T14 := by kernel_rfl
theorem impl_closure.bits14 : waitsOk impl_closure.T14.2 impl_closure.B14 = true := by kernel_rfl
set_option maxHeartbeats 8000000 in
set_option maxRecDepth 100000 in
theorem impl_closure.calls (k : Nat) (A0 : Option Addr) (c0 : Nat) (l0 : List Int) (r : List Int) (w : World) (hr0 : Kd.C (Kd.int .i64) w A0 l0.length l0) (hc0 : l0.length ≤ c0) (h : impl_closure.f k l0 = some r) :
  Calls Tryd.prog 190 #[.slice A0 l0.length c0] w fun e w' => ∃ v0_ : Value, e = .returned (v0_) ∧ Kd.R (Kd.int .i64) 2 w' w.heap.size (fun _ => True) v0_ r ∧ Below w.heap.size w w' := by
 have HR0 := zA hr0
 have HC0 := zA hc0
 clear hr0 hc0
 have HB := zA (kW w.heap.size w)
 have H := h
 unfold impl_closure.f at H
 clear h
 obtain ⟨t1119, A2, H⟩ := zb H
 try dsimp only at H
 have H' := zA H
 clear H
 go_enter Tryd.func190, Tryd.ntmps190
 go_wp2_with (first | (refine zO (some 8) Tryd.func99 #[.slice A0 l0.length c0] ?_; (with_reducible refine (slices_Clone_int64_int64.calls _ _ l0 t1119 _ ?side1 ?side2 A2.out).mono ?_); (case side1 => exact zS HR0.out); (case side2 => exact HC0.out); rintro e w3 ⟨v1120, rfl, ho0, hb⟩; refine ⟨_, rfl, ?_⟩; have HO1121 := zA (kI ho0 (kP (zQ HB.out))); replace HB := zA (kQ (zQ HB.out) hb); (try clear hb); (try clear ho0); obtain ⟨Ao4, co4, eo4⟩ := kM HO1121.out; subst eo4))
 go_loopg [11] k (fun kq v11 w' => ∃ (x3_1 : List Int) (x11_1 : Int), v11 = .int .i64 x11_1 ∧ Aside0 (impl_closure.l0 kq x3_1 (t1119.length : Int) x11_1 = some r) ∧ Aside0 (kq ≤ k) ∧ Aside0 (Kd.R (Kd.int .i64) 2 w' w.heap.size (fun _ => True) (.slice Ao4 t1119.length co4) x3_1) ∧ Aside0 (Below w.heap.size w w'))
 case atStart => exact ⟨(t1119), (0), zs, H', ⟨Nat.le_refl _⟩, ⟨zP HO1121.out⟩, ⟨zQ HB.out⟩⟩
 case round =>
  clear H'
  try clear c1
  obtain ⟨x3_1, x11_1, rfl, HA, HK1, HO_3, HB⟩ := hrel
  have hl3_1 := (kB HO_3.out).1
  rw [hl3_1] at HO_3
  (try simp only [hl3_1])
  cases gk with
  | zero => exact absurd HA.out (by simp [impl_closure.l0])
  | succ k1 =>
   have H := HA.out
   clear HA
   simp only [impl_closure.l0] at H
   by_cases c5 : x11_1 < (t1119.length : Int)
   ·rw [if_pos c5] at H
    have c5b0 : decide (x11_1 < (t1119.length : Int)) = true := decide_eq_true c5
    (try (have c5b0h0_ := c5b0; rw [hl3_1] at c5b0h0_))
    clear c5
    by_cases c6 : 0 ≤ x11_1
    ·rw [if_pos c6] at H
     have c6b0 : decide (0 ≤ x11_1) = true := decide_eq_true c6
     clear c6
     by_cases c7 : x11_1 < (x3_1.length : Int)
     ·rw [if_pos c7] at H
      have c7b0 : decide (x11_1 < (x3_1.length : Int)) = true := decide_eq_true c7
      (try (have c7b0h0_ := c7b0; rw [hl3_1] at c7b0h0_))
      clear c7
      obtain ⟨t1123, A8, H⟩ := zb H
      try dsimp only at H
      obtain ⟨y1124, hy1124⟩ : ∃ y_ : List Int, y_ = (x3_1.set (x11_1 : Int).toNat (Go.bits .or .i64 (rd x3_1 x11_1) t1123)) := ⟨_, rfl⟩
      replace H : (impl_closure.l0 k1 y1124 (t1119.length : Int) (wrap64 (x11_1 + 1))) = some r := zy hy1124 H
      have Ny1124 := zA hy1124
      clear hy1124
      have H' := zA H
      clear H
      try go_wp2
      replace HO_3 := zA (zH HO_3.out)
      replace HB := zA (zD HB.out)
      have p1122 : 0 ≤ (x11_1 : Int) := zd
      have q1122 : x11_1 < (x3_1.length : Int) := zd
      obtain ⟨ad1122, e1122, hx1122_0⟩ := Kd.at_int (kB HO_3.out).2.2 x11_1 p1122 q1122
      cases e1122
      replace p1122 := eq_true p1122
      replace q1122 := eq_true q1122
      refine start_ (n := 9) (S := fun w' => w'.cell? (ad1122.add (x11_1).toNat) = some (.int .i64 (rd x3_1 x11_1))) (ds := [8]) #[false, false, false, false, false, false, false, false, false] (by kernel_rfl) rfl rfl (hx1122_0) (fun hHeld => ?_); refine with_tabW impl_closure.tab5 impl_closure.bits5 (fun HT_ HW_ => ?_)
      generalize wr.drew = w10 at HO_3 HB hx1122_0 hHeld ⊢
      refine zp 0 (some 14) #[true, false, false, false, false, false, false, false, false] HT_.out ?_
      refine zp 1 (some 15) #[true, true, false, false, false, false, false, false, false] HT_.out ?_
      refine zp 2 (some 16) #[true, true, true, false, false, false, false, false, false] HT_.out ?_
      refine zp 4 (some 18) #[true, true, true, false, true, false, false, false, false] HT_.out ?_
      refine za 3 (some 17) #[true, true, true, true, true, false, false, false, false] HT_.out HW_.out hHeld ?_
      refine one_ (i := 5) (N := some 19) #[true, true, true, true, true, true, false, false, false] rfl rfl (one_of HT_.out (by kernel_rfl)) (by decide) (fun K hK => ?_)
      refine goes_ Tryd.func118 (by kernel_rfl) rfl #[.int .i64 x11_1] (by rfl) rfl rfl zg ?_
      with_reducible refine (impl_one.calls x11_1 t1123 _ A8.out).mono ?_
      rintro e w' ⟨rfl, ⟨nd, rfl⟩⟩
      refine ⟨_, rfl, ?_⟩
      have p9 : 0 ≤ (x11_1 : Int) := zd
      have q9 : (x11_1 : Int) < ((x3_1.length : Int) : Int) := zd
      obtain ⟨go9, co9, eo9, gb9, gl9, cl9, HG9⟩ := Kd.R_form HO_3.out (by omega)
      (first | cases eo9 | (injection eo9 with ea_ en_ ec_; (first | subst ea_ | (injection ea_ with ea_; subst ea_)); subst ec_; clear en_))
      have GB9 := zA gb9
      have GG9 := zA HG9
      clear gb9 gl9 HG9
      (first | simp only [add_plain] at hx1122_0 | skip)
      obtain ⟨hx9_0, hf9_0⟩ := Kd.R_celln 0 HO_3.out (x11_1 : Int) p9 q9
      replace p9 := eq_true p9
      replace q9 := eq_true q9
      have HP11 := Kd.R_putn HO_3.out (x11_1 : Int) (Go.bits .or .i64 (rd x3_1 x11_1) t1123)
      rw [← Ny1124.out] at HP11
      have HQ11 := zA HP11
      clear HP11
      refine hK.out _ _ (hHeld) (fun hHeld => ?_)
      clear hK K
      refine norm_ (a' := ?_) ?_ ?_
      rotate_left
      ·show Act.put _ (some 19) _ = _
       simp only [Act.put, zL, zM, zN, i64_w, i32_w]
       rfl
      refine zp 6 (some 20) #[true, true, true, true, true, true, true, false, false] HT_.out ?_
      refine zp 7 (some 21) #[true, true, true, true, true, true, true, true, false] HT_.out ?_
      refine last_ (i := 8) (N := none) #[true, true, true, true, true, true, true, true, true] rfl rfl (one_of HT_.out (by kernel_rfl)) (by decide) (fun K hK => ?_)
      refine skip_ (w1 := ?_) (by rfl) rfl ?_ ?_
      rotate_left
      ·go_simp
       rfl
      refine hK.out _ _ ?_
      clear hK K
      refine done_ (done_of HT_.out (by kernel_rfl)) ?_
      try go_wp2
      (try simp only [← hl3_1])
      go_roundg k1
      case measure => have := HK1.out; omega
      case rel => exact ⟨(y1124), (wrap64 (x11_1 + 1)), zs, H', ⟨by have := HK1.out; omega⟩, ⟨by (try simp only [hl3_1]); (with_reducible repeat (first | apply zF | apply zG | apply zH)); exact HQ11.out⟩, ⟨zT HB.out GB9.out⟩⟩
     rw [if_neg c7] at H
     exact absurd H (by simp)
    rw [if_neg c6] at H
    exact absurd H (by simp)
   rw [if_neg c5] at H
   have c5b0 : decide (x11_1 < (t1119.length : Int)) = false := decide_eq_false c5
   (try (have c5b0h0_ := c5b0; rw [hl3_1] at c5b0h0_))
   clear c5
   have H' := zA H
   clear H
   go_wp2
   go_loopg [25] k1 (fun kq v25 w' => ∃ (x3_2 : List Int) (x25_2 : Int), v25 = .int .i64 x25_2 ∧ Aside0 (impl_closure.l1 kq x3_2 (x3_1.length : Int) x25_2 = some r) ∧ Aside0 (kq ≤ k1) ∧ Aside0 (Kd.R (Kd.int .i64) 2 w' w.heap.size (fun _ => True) (.slice Ao4 x3_1.length co4) x3_2) ∧ Aside0 (Below w.heap.size w w'))
   case atStart => exact ⟨(x3_1), (0), zs, H', ⟨Nat.le_refl _⟩, ⟨by (try simp only [hl3_1]); (with_reducible repeat (first | apply zF | apply zG | apply zH)); exact HO_3.out⟩, ⟨zQ HB.out⟩⟩
   case round =>
    clear H'
    try clear c1
    try clear hx1
    try clear c5
    try clear c6
    try clear c7
    try clear c9
    try clear hx9
    try clear hf9
    try clear c11
    try clear hx11
    try clear hx1122_0
    try clear hx9_0
    obtain ⟨x3_2, x25_2, rfl, HA, HK2, HO_3, HB⟩ := hrel
    have hl3_2 := (kB HO_3.out).1
    rw [hl3_2] at HO_3
    (try simp only [hl3_2])
    cases gk with
    | zero => exact absurd HA.out (by simp [impl_closure.l1])
    | succ k2 =>
     have H := HA.out
     clear HA
     simp only [impl_closure.l1] at H
     by_cases c12 : x25_2 < (x3_1.length : Int)
     ·rw [if_pos c12] at H
      have c12b0 : decide (x25_2 < (x3_1.length : Int)) = true := decide_eq_true c12
      (try (have c12b0h0_ := c12b0; rw [hl3_1] at c12b0h0_))
      (try (have c12b0h1_ := c12b0; rw [hl3_2] at c12b0h1_))
      clear c12
      have H' := zA H
      clear H
      go_wp2
      go_loopg [30] k2 (fun kq v30 w' => ∃ (x3_3 : List Int) (x30_3 : Int), v30 = .int .i64 x30_3 ∧ Aside0 (impl_closure.l2 kq x3_3 x25_2 (x3_1.length : Int) x25_2 (x3_2.length : Int) x30_3 = some r) ∧ Aside0 (kq ≤ k2) ∧ Aside0 (Kd.R (Kd.int .i64) 2 w' w.heap.size (fun _ => True) (.slice Ao4 x3_2.length co4) x3_3) ∧ Aside0 (Below w.heap.size w w'))
      case atStart => exact ⟨(x3_2), (0), zs, H', ⟨Nat.le_refl _⟩, ⟨by (try simp only [hl3_1]); (try simp only [hl3_2]); (with_reducible repeat (first | apply zF | apply zG | apply zH)); exact HO_3.out⟩, ⟨zQ HB.out⟩⟩
      case round =>
       clear H'
       try clear c1
       try clear hx1
       try clear c5
       try clear c6
       try clear c7
       try clear c9
       try clear hx9
       try clear hf9
       try clear c11
       try clear hx11
       try clear c12
       try clear hx1122_0
       try clear hx9_0
       obtain ⟨x3_3, x30_3, rfl, HA, HK3, HO_3, HB⟩ := hrel
       have hl3_3 := (kB HO_3.out).1
       rw [hl3_3] at HO_3
       (try simp only [hl3_3])
       cases gk with
       | zero => exact absurd HA.out (by simp [impl_closure.l2])
       | succ k3 =>
        have H := HA.out
        clear HA
        simp only [impl_closure.l2] at H
        by_cases c13 : x30_3 < (x3_2.length : Int)
        ·rw [if_pos c13] at H
         have c13b0 : decide (x30_3 < (x3_2.length : Int)) = true := decide_eq_true c13
         (try (have c13b0h0_ := c13b0; rw [hl3_1] at c13b0h0_))
         (try (have c13b0h1_ := c13b0; rw [hl3_2] at c13b0h1_))
         (try (have c13b0h2_ := c13b0; rw [hl3_3] at c13b0h2_))
         clear c13
         by_cases c14 : 0 ≤ x30_3
         ·rw [if_pos c14] at H
          have c14b0 : decide (0 ≤ x30_3) = true := decide_eq_true c14
          clear c14
          by_cases c15 : x30_3 < (x3_3.length : Int)
          ·rw [if_pos c15] at H
           have c15b0 : decide (x30_3 < (x3_3.length : Int)) = true := decide_eq_true c15
           (try (have c15b0h0_ := c15b0; rw [hl3_1] at c15b0h0_))
           (try (have c15b0h1_ := c15b0; rw [hl3_2] at c15b0h1_))
           (try (have c15b0h2_ := c15b0; rw [hl3_3] at c15b0h2_))
           clear c15
           obtain ⟨t1126, A16, H⟩ := zb H
           try dsimp only at H
           by_cases c17 : t1126 = true
           ·subst c17
            rw [if_pos rfl] at H
            by_cases c18 : 0 ≤ x25_2
            ·rw [if_pos c18] at H
             have c18b0 : decide (0 ≤ x25_2) = true := decide_eq_true c18
             clear c18
             by_cases c19 : x25_2 < (x3_3.length : Int)
             ·rw [if_pos c19] at H
              have c19b0 : decide (x25_2 < (x3_3.length : Int)) = true := decide_eq_true c19
              (try (have c19b0h0_ := c19b0; rw [hl3_1] at c19b0h0_))
              (try (have c19b0h1_ := c19b0; rw [hl3_2] at c19b0h1_))
              (try (have c19b0h2_ := c19b0; rw [hl3_3] at c19b0h2_))
              clear c19
              obtain ⟨y1129, hy1129⟩ : ∃ y_ : List Int, y_ = (x3_3.set (x30_3 : Int).toNat (Go.bits .or .i64 (rd x3_3 x30_3) (rd x3_3 x25_2))) := ⟨_, rfl⟩
              replace H : (impl_closure.l2 k3 y1129 x25_2 (x3_1.length : Int) x25_2 (x3_2.length : Int) (wrap64 (x30_3 + 1))) = some r := zy hy1129 H
              have Ny1129 := zA hy1129
              clear hy1129
              have H' := zA H
              clear H
              have p1125 : 0 ≤ (x30_3 : Int) := zd
              have q1125 : x30_3 < (x3_3.length : Int) := zd
              obtain ⟨ad1125, e1125, hx1125_0⟩ := Kd.at_int (kB HO_3.out).2.2 x30_3 p1125 q1125
              cases e1125
              replace p1125 := eq_true p1125
              replace q1125 := eq_true q1125
              try go_wp2_with (first | (refine zO (some 38) Tryd.func159 #[.int .i64 (rd x3_3 x30_3), .int .i64 x25_2] ?_; (with_reducible refine (impl_has.calls (rd x3_3 x30_3) x25_2 true _ A16.out).mono ?_); rintro e w' ⟨rfl, ⟨nd, rfl⟩⟩; refine ⟨_, rfl, ?_⟩; (try (rw [drewN_self wr]; generalize hq_ : World.drewN wr _ = wr; have n0_ : Aside0 (Kd.R (Kd.int .i64) 2 wr w.heap.size (fun _ => True) (.slice (some ad1125) x3_3.length co4) x3_3) := ⟨by rw [← hq_]; exact (zP HO_3.out)⟩; have n1_ : Aside0 (Below w.heap.size w wr) := ⟨by rw [← hq_]; exact (zQ HB.out)⟩; clear HO_3 HB hq_; have HO_3 := n0_; have HB := n1_; clear n0_ n1_))))
              replace HO_3 := zA (zH HO_3.out)
              replace HB := zA (zD HB.out)
              have p1127 : 0 ≤ (x30_3 : Int) := zd
              have q1127 : x30_3 < (x3_3.length : Int) := zd
              obtain ⟨ad1127, e1127, hx1127_0⟩ := Kd.at_int (kB HO_3.out).2.2 x30_3 p1127 q1127
              obtain rfl : ad1125 = ad1127 := (by injection e1127)
              replace p1127 := eq_true p1127
              replace q1127 := eq_true q1127
              have p1128 : 0 ≤ (x25_2 : Int) := zd
              have q1128 : x25_2 < (x3_3.length : Int) := zd
              obtain ⟨ad1128, e1128, hx1128_0⟩ := Kd.at_int (kB HO_3.out).2.2 x25_2 p1128 q1128
              obtain rfl : ad1125 = ad1128 := (by injection e1128)
              replace p1128 := eq_true p1128
              replace q1128 := eq_true q1128
              have p20 : 0 ≤ (x30_3 : Int) := zd
              have q20 : (x30_3 : Int) < ((x3_3.length : Int) : Int) := zd
              obtain ⟨go20, co20, eo20, gb20, gl20, cl20, HG20⟩ := Kd.R_form HO_3.out (by omega)
              (first | cases eo20 | (injection eo20 with ea_ en_ ec_; (first | subst ea_ | (injection ea_ with ea_; subst ea_)); subst ec_; clear en_))
              have GB20 := zA gb20
              have GG20 := zA HG20
              clear gb20 gl20 HG20
              (first | simp only [add_plain] at hx1125_0 | skip)
              (first | simp only [add_plain] at hx1127_0 | skip)
              (first | simp only [add_plain] at hx1128_0 | skip)
              obtain ⟨hx20_0, hf20_0⟩ := Kd.R_celln 0 HO_3.out (x30_3 : Int) p20 q20
              replace p20 := eq_true p20
              replace q20 := eq_true q20
              have HP22 := Kd.R_putn HO_3.out (x30_3 : Int) (Go.bits .or .i64 (rd x3_3 x30_3) (rd x3_3 x25_2))
              rw [← Ny1129.out] at HP22
              have HQ22 := zA HP22
              clear HP22
              refine start_ (n := 11) (S := fun w' => w'.cell? ⟨go20, (x30_3).toNat, none⟩ = some (.int .i64 (rd x3_3 x30_3)) ∧ w'.cell? ⟨go20, (x25_2).toNat, none⟩ = some (.int .i64 (rd x3_3 x25_2))) (ds := [10]) #[false, false, false, false, false, false, false, false, false, false, false] (by kernel_rfl) rfl rfl ⟨hx1127_0, hx1128_0⟩ (fun hHeld => ?_); refine with_tabW impl_closure.tab14 impl_closure.bits14 (fun HT_ HW_ => ?_)
              generalize wr.drew = w21 at HO_3 HB GG20 HQ22 hf20_0 hx1125_0 hx1127_0 hx1128_0 hx20_0 hHeld ⊢
              refine zp 0 (some 39) #[true, false, false, false, false, false, false, false, false, false, false] HT_.out ?_
              refine zp 1 (some 40) #[true, true, false, false, false, false, false, false, false, false, false] HT_.out ?_
              refine zp 2 (some 41) #[true, true, true, false, false, false, false, false, false, false, false] HT_.out ?_
              refine zp 4 (some 43) #[true, true, true, false, true, false, false, false, false, false, false] HT_.out ?_
              refine zp 5 (some 44) #[true, true, true, false, true, true, false, false, false, false, false] HT_.out ?_
              refine zp 6 (some 45) #[true, true, true, false, true, true, true, false, false, false, false] HT_.out ?_
              refine zc 3 (some 42) #[true, true, true, true, true, true, true, false, false, false, false] HT_.out HW_.out hHeld ?_
              refine zc 7 (some 46) #[true, true, true, true, true, true, true, true, false, false, false] HT_.out HW_.out hHeld ?_
              refine zp 8 (some 47) #[true, true, true, true, true, true, true, true, true, false, false] HT_.out ?_
              refine zp 9 (some 48) #[true, true, true, true, true, true, true, true, true, true, false] HT_.out ?_
              refine last_ (i := 10) (N := none) #[true, true, true, true, true, true, true, true, true, true, true] rfl rfl (one_of HT_.out (by kernel_rfl)) (by decide) (fun K hK => ?_)
              refine skip_ (w1 := ?_) (by rfl) rfl ?_ ?_
              rotate_left
              ·go_simp
               rfl
              refine hK.out _ _ ?_
              clear hK K
              refine done_ (done_of HT_.out (by kernel_rfl)) ?_
              try go_wp2
              (try simp only [← hl3_3])
              go_roundg k3
              case measure => have := HK1.out; have := HK2.out; have := HK3.out; omega
              case rel => exact ⟨(y1129), (wrap64 (x30_3 + 1)), zs, H', ⟨by have := HK1.out; have := HK2.out; have := HK3.out; omega⟩, ⟨by (try simp only [hl3_1]); (try simp only [hl3_2]); (try simp only [hl3_3]); (with_reducible repeat (first | apply zF | apply zG | apply zH)); exact HQ22.out⟩, ⟨zT HB.out GB20.out⟩⟩
             rw [if_neg c19] at H
             exact absurd H (by simp)
            rw [if_neg c18] at H
            exact absurd H (by simp)
           replace c17 := Bool.eq_false_iff.mpr c17
           subst c17
           rw [if_neg (show ¬ (false = true) by decide)] at H
           have H' := zA H
           clear H
           have p1125 : 0 ≤ (x30_3 : Int) := zd
           have q1125 : x30_3 < (x3_3.length : Int) := zd
           obtain ⟨ad1125, e1125, hx1125_0⟩ := Kd.at_int (kB HO_3.out).2.2 x30_3 p1125 q1125
           cases e1125
           replace p1125 := eq_true p1125
           replace q1125 := eq_true q1125
           go_wp2_with (first | (refine zO (some 38) Tryd.func159 #[.int .i64 (rd x3_3 x30_3), .int .i64 x25_2] ?_; (with_reducible refine (impl_has.calls (rd x3_3 x30_3) x25_2 false _ A16.out).mono ?_); rintro e w' ⟨rfl, ⟨nd, rfl⟩⟩; refine ⟨_, rfl, ?_⟩))
           (try simp only [← hl3_3])
           go_roundg k3
           case measure => have := HK1.out; have := HK2.out; have := HK3.out; omega
           case rel => exact ⟨(x3_3), (wrap64 (x30_3 + 1)), zs, H', ⟨by have := HK1.out; have := HK2.out; have := HK3.out; omega⟩, ⟨by (try simp only [hl3_1]); (try simp only [hl3_2]); (try simp only [hl3_3]); (with_reducible repeat (first | apply zF | apply zG | apply zH)); exact HO_3.out⟩, ⟨zQ HB.out⟩⟩
          rw [if_neg c15] at H
          exact absurd H (by simp)
         rw [if_neg c14] at H
         exact absurd H (by simp)
        rw [if_neg c13] at H
        have c13b0 : decide (x30_3 < (x3_2.length : Int)) = false := decide_eq_false c13
        (try (have c13b0h0_ := c13b0; rw [hl3_1] at c13b0h0_))
        (try (have c13b0h1_ := c13b0; rw [hl3_2] at c13b0h1_))
        (try (have c13b0h2_ := c13b0; rw [hl3_3] at c13b0h2_))
        clear c13
        have H' := zA H
        clear H
        go_wp2
        (try simp only [← hl3_2, ← hl3_3])
        go_roundg k3
        case measure => have := HK1.out; have := HK2.out; have := HK3.out; omega
        case rel => exact ⟨(x3_3), (wrap64 (x25_2 + 1)), zs, H', ⟨by have := HK1.out; have := HK2.out; have := HK3.out; omega⟩, ⟨by (try simp only [hl3_1]); (try simp only [hl3_2]); (try simp only [hl3_3]); (with_reducible repeat (first | apply zF | apply zG | apply zH)); exact HO_3.out⟩, ⟨zQ HB.out⟩⟩
     rw [if_neg c12] at H
     have c12b0 : decide (x25_2 < (x3_1.length : Int)) = false := decide_eq_false c12
     (try (have c12b0h0_ := c12b0; rw [hl3_1] at c12b0h0_))
     (try (have c12b0h1_ := c12b0; rw [hl3_2] at c12b0h1_))
     (try (have c12b0h2_ := c12b0; rw [hl3_3] at c12b0h2_))
     clear c12
     obtain rfl := Option.some.inj H
     go_wp2
     go_ret
     exact ⟨_, zr, zP HO_3.out, zQ HB.out⟩

end Go.Proofs.YthgapkbkhoeleaaDoor.PAll
