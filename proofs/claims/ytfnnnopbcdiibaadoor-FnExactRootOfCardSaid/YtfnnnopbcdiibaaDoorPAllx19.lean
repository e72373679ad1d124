-- Printed by a program of the session (wip/tools/pgen.py) out of the translation. Not trusted: Lean checks it.
import Derived.Test.YtfnnnopbcdiibaaDoorPAllx0
import Derived.Test.YtfnnnopbcdiibaaDoorPAllx1
import Derived.Test.YtfnnnopbcdiibaaDoorPAllx2
import Derived.Test.YtfnnnopbcdiibaaDoorPAllx3
import Derived.Test.YtfnnnopbcdiibaaDoorPAllx8
import Derived.Test.YtfnnnopbcdiibaaDoorPAllx9
namespace Go.Proofs.YtfnnnopbcdiibaaDoor.PAll
open Go.RowKit Go.Proofs.YtfnnnopbcdiibaaDoor.T Go.Proofs.YtfnnnopbcdiibaaDoorW.PrintWords Go.Proofs.YtfnnnopbcdiibaaDoorW.PrintLast Go.Proofs.YtfnnnopbcdiibaaDoorW.PrintMore
attribute [local go_sem] max2_int min2_int max_two min_two max_three min_three max_four min_four   -- for this text's walks alone
set_option linter.unusedVariables false
set_option linter.unusedSimpArgs false

/-! ### spec_l03Content: function 112 -/
def spec_l03Content.l0 : Nat → List Int → List Int → Int → Option (List Int)
 | 0, _, _, _ => none
 | k + 1, x1, x5, x6 => if x6 < (x1.length : Int) then (if 0 ≤ x6 then (if 0 ≤ (rd x1 x6) then (if (rd x1 x6) < (x5.length : Int) then (spec_l03Content.l0 k x1 (x5.set ((rd x1 x6) : Int).toNat (wrap64 ((rd x5 (rd x1 x6)) + 1))) (wrap64 (x6 + 1))) else (none)) else (none)) else (none)) else (some x5)
def spec_l03Content.f (k : Nat) (a0_0 : Int) (l0_1 : List Int) (l1 : List Int) : Option (List Int) := if 0 ≤ a0_0 then (if (a0_0 : Int).toNat ≤ 35184372088832 then (spec_l03Content.l0 k l1 (List.replicate (a0_0 : Int).toNat 0) 0) else (none)) else (none)

set_option maxHeartbeats 8000000 in
set_option maxRecDepth 100000 in
theorem spec_l03Content.calls (k : Nat) (a0_0 : Int) (A0_1 : Option Addr) (c0_1 : Nat) (l0_1 : List Int) (A1 : Option Addr) (c1 : Nat) (l1 : List Int) (r : List Int) (w : World) (hr0_1 : Kd.C (Kd.int .i64) w A0_1 l0_1.length l0_1) (hc0_1 : l0_1.length ≤ c0_1) (hr1 : Kd.C (Kd.int .i64) w A1 l1.length l1) (hc1 : l1.length ≤ c1) (h : spec_l03Content.f k a0_0 l0_1 l1 = some r) :
  Calls Tryd.prog 112 #[.agg #[.int .i64 a0_0, .slice A0_1 l0_1.length c0_1], .slice A1 l1.length c1] w fun e w' => ∃ v0_ : Value, e = .returned (v0_) ∧ Kd.R (Kd.int .i64) 2 w' w.heap.size (fun _ => True) v0_ r ∧ Below w.heap.size w w' := by
 have hu28 := Tryd.underlying28
 have HR0_1 := zA hr0_1
 have HC0_1 := zA hc0_1
 clear hr0_1 hc0_1
 have HR1 := zA hr1
 have HC1 := zA hc1
 clear hr1 hc1
 have HB := zA (kW w.heap.size w)
 have H := h
 unfold spec_l03Content.f at H
 clear h
 by_cases c3 : 0 ≤ a0_0
 ·rw [if_pos c3] at H
  have c3b0 := eq_true c3
  have c3b1 : decide (0 ≤ a0_0) = true := decide_eq_true c3
  clear c3
  by_cases c4 : (a0_0 : Int).toNat ≤ 35184372088832
  ·rw [if_pos c4] at H
   have c4b0 := eq_true c4
   have c4b1 : decide ((a0_0 : Int).toNat ≤ 35184372088832) = true := decide_eq_true c4
   clear c4
   obtain ⟨y495, hy495⟩ : ∃ y_ : List Int, y_ = (List.replicate (a0_0 : Int).toNat 0) := ⟨_, rfl⟩
   replace H : (spec_l03Content.l0 k l1 y495 0) = some r := zy hy495 H
   have Ny495 := zA hy495
   clear hy495
   have H' := zA H
   clear H
   go_enter Tryd.func112, Tryd.ntmps112
   go_wp2_with (first | (refine zBE 2 #[.int .i64 a0_0, .slice A0_1 l0_1.length c0_1] 28 ?_; intro gb494 hg w5 hbox hb; have BK494 := zA (hbox); have GW494 := zA (zBH hg HB.out); have GE494 := zA (zBH hg HB.out); replace HB := zA (kQ (zQ HB.out) hb); clear hb hbox hg; obtain ⟨hcz6_0, hcz6_1, hfz6_0, hfz6_1⟩ := zB3 BK494.out) | ((with_reducible refine kS (N := 9) rfl ?_); refine Kd.R_make (Kd.int .i64) _ 2 rfl (N := 9) rfl 22 _ _ rfl a0_0 rfl rfl Tryd.underlying22 (.int .i64 0) 8 info2 rfl (by decide) (by omega) 0 (ok := fun _ => True) (okp := fun _ => True) rfl (fun _ hk => hk) trivial (zd) (Nat.le_trans (Nat.mul_le_mul_right _ (zd : a0_0.toNat ≤ 35184372088832)) (by omega)) (kW _ _) (Nat.le_refl _) ?_; intro v496 w7 ho8 hb hg_ hnew_; clear hg_ hnew_; (first | rw [← Ny495.out] at ho8 | (simp only [Int.reduceToNat] at ho8; rw [← Ny495.out] at ho8)); have HO497 := zA (kI ho8 (kP (zT HB.out GE494.out))); replace BK494 := zA (zB1 BK494.out hb); replace HB := zA (kQ (zT HB.out GE494.out) hb); clear hb ho8))
   go_loopg [6] k (fun kq v6 w' => ∃ (x5_1 : List Int) (x6_1 : Int), v6 = .int .i64 x6_1 ∧ Aside0 (spec_l03Content.l0 kq l1 x5_1 x6_1 = some r) ∧ Aside0 (kq ≤ k) ∧ Aside0 (Kd.R (Kd.int .i64) 2 w' w.heap.size (fun _ => True) v496 x5_1) ∧ Aside0 (w'.heap[gb494]? = some (.cells #[.int .i64 a0_0, (.slice A0_1 l0_1.length c0_1)] 28 (0, 0))) ∧ Aside0 (Below w.heap.size w w'))
   case atStart => exact ⟨(y495), (0), zs, H', ⟨Nat.le_refl _⟩, ⟨zP HO497.out⟩, ⟨zR BK494.out⟩, ⟨zT HB.out GE494.out⟩⟩
   case round =>
    clear H'
    try clear c1
    try clear c3
    try clear c4
    try clear hcz6_0
    try clear hcz6_1
    try clear hfz6_0
    try clear hfz6_1
    obtain ⟨x5_1, x6_1, rfl, HA, HK1, HO_5, BK494, HB⟩ := hrel
    cases gk with
    | zero => exact absurd HA.out (by simp [spec_l03Content.l0])
    | succ k1 =>
     have H := HA.out
     clear HA
     simp only [spec_l03Content.l0] at H
     by_cases c9 : x6_1 < (l1.length : Int)
     ·rw [if_pos c9] at H
      have c9b0 : decide (x6_1 < (l1.length : Int)) = true := decide_eq_true c9
      clear c9
      by_cases c10 : 0 ≤ x6_1
      ·rw [if_pos c10] at H
       have c10b0 : decide (0 ≤ x6_1) = true := decide_eq_true c10
       clear c10
       by_cases c11 : 0 ≤ (rd l1 x6_1)
       ·rw [if_pos c11] at H
        have c11b0 : decide (0 ≤ (rd l1 x6_1)) = true := decide_eq_true c11
        clear c11
        by_cases c12 : (rd l1 x6_1) < (x5_1.length : Int)
        ·rw [if_pos c12] at H
         have c12b0 : decide ((rd l1 x6_1) < (x5_1.length : Int)) = true := decide_eq_true c12
         clear c12
         obtain ⟨y500, hy500⟩ : ∃ y_ : List Int, y_ = (x5_1.set ((rd l1 x6_1) : Int).toNat (wrap64 ((rd x5_1 (rd l1 x6_1)) + 1))) := ⟨_, rfl⟩
         replace H : (spec_l03Content.l0 k1 l1 y500 (wrap64 (x6_1 + 1))) = some r := zy hy500 H
         have Ny500 := zA hy500
         clear hy500
         have H' := zA H
         clear H
         have p498 : 0 ≤ (x6_1 : Int) := zd
         have q498 : x6_1 < (l1.length : Int) := zd
         obtain ⟨ad498, e498, hx498_0⟩ := Kd.at_int HR1.out x6_1 p498 q498
         cases e498
         replace hx498_0 := (HB.out.cell (jG w _ hx498_0)).trans hx498_0
         replace p498 := eq_true p498
         replace q498 := eq_true q498
         obtain ⟨Ao14, co14, eo14⟩ := kM HO_5.out
         subst eo14
         have p499 : 0 ≤ ((rd l1 x6_1) : Int) := zd
         have q499 : (rd l1 x6_1) < (x5_1.length : Int) := zd
         obtain ⟨ad499, e499, hx499_0⟩ := Kd.at_int (kB HO_5.out).2.2 (rd l1 x6_1) p499 q499
         cases e499
         replace p499 := eq_true p499
         replace q499 := eq_true q499
         have p13 : 0 ≤ ((rd l1 x6_1) : Int) := zd
         have q13 : ((rd l1 x6_1) : Int) < ((x5_1.length : Int) : Int) := zd
         obtain ⟨go13, co13, eo13, gb13, gl13, cl13, HG13⟩ := Kd.R_form HO_5.out (by omega)
         (first | cases eo13 | (injection eo13 with ea_ en_ ec_; (first | subst ea_ | (injection ea_ with ea_; subst ea_)); subst ec_; clear en_))
         have GB13 := zA gb13
         have GG13 := zA HG13
         clear gb13 gl13 HG13
         (first | simp only [add_plain] at hx499_0 | skip)
         obtain ⟨hx13_0, hf13_0⟩ := Kd.R_celln 0 HO_5.out ((rd l1 x6_1) : Int) p13 q13
         replace p13 := eq_true p13
         replace q13 := eq_true q13
         have HP15 := Kd.R_putg HO_5.out ((rd l1 x6_1) : Int) (wrap64 ((rd x5_1 (rd l1 x6_1)) + 1))
         go_wp2_with (first | ((with_reducible refine gate_store (t := 2) (p := 24) rfl ?_); refine store_event (t := 2) (p := 24) (v := ?vo_w16) (w1 := (wr.setCell ⟨go13, ((rd l1 x6_1) : Int).toNat, none⟩ (.int .i64 (wrap64 ((rd x5_1 (rd l1 x6_1)) + 1))))) ?hg ?ho ?hn ?hr ?_; (case ho => rfl); (case hg => rfl); (case hn => rfl); (case hr => first | (go_simp; done) | (go_simp; rfl)); intro w16 hw; have hg : wr.grownBy w16 (some go13) := (by rw [hw]; exact HP15.2); have hp_ : Kd.R (Kd.int .i64) 2 w16 w.heap.size (fun _ => True) (.slice (some ⟨go13, 0, none⟩) x5_1.length co14) y500 := (by rw [hw, Ny500.out]; exact HP15.1); clear HP15; replace BK494 := zA (blk_grown (g := gb494) (o := .cells #[.int .i64 a0_0, .slice A0_1 l0_1.length c0_1] 28 (0, 0)) (zR BK494.out) hg (Kd.R_ne HO_5.out BK494.out (by decide))); replace HO_5 := zA (hp_); replace HB := zA ((by rw [hw]; exact zE (HB.out) GB13.out : Below w.heap.size w w16)); clear hg hw hp_))
         go_roundg k1
         case measure => have := HK1.out; omega
         case rel => exact ⟨(y500), (wrap64 (x6_1 + 1)), zs, H', ⟨by have := HK1.out; omega⟩, ⟨zP HO_5.out⟩, ⟨zR BK494.out⟩, ⟨zT HB.out GE494.out⟩⟩
        rw [if_neg c12] at H
        exact absurd H (by simp)
       rw [if_neg c11] at H
       exact absurd H (by simp)
      rw [if_neg c10] at H
      exact absurd H (by simp)
     rw [if_neg c9] at H
     have c9b0 : decide (x6_1 < (l1.length : Int)) = false := decide_eq_false c9
     clear c9
     obtain rfl := Option.some.inj H
     go_wp2
     go_ret
     exact ⟨_, zr, zP HO_5.out, zT HB.out GE494.out⟩
  rw [if_neg c4] at H
  exact absurd H (by simp)
 rw [if_neg c3] at H
 exact absurd H (by simp)

/-! ### spec_l07Root: function 71 -/
mutual
def spec_l07Root.l0 : Nat → List Int → List Int → Int → Int → List Int → Option (List Int × Int)
 | 0, _, _, _, _, _ => none
 | k + 1, x1, x6, x7, x502000, x502001 => if x7 > 1 then (spec_l07Root.l1 k x1 x6 x7 true 0 x502000 x502001) else ((spec_l03Normal.f k x502000 x502001 x1).bind fun t505 => (some (t505, 1)))
def spec_l07Root.l1 : Nat → List Int → List Int → Int → Bool → Int → Int → List Int → Option (List Int × Int)
 | 0, _, _, _, _, _, _, _ => none
 | k + 1, x1, x6, x7, x8, x9, x502000, x502001 => if x9 < x502000 then (if x8 = true then (if 0 ≤ x9 then (if x9 < (x6.length : Int) then (if x7 = 0 then (none) else (spec_l07Root.l1 k x1 x6 x7 ((Int.tmod (rd x6 x9) x7) == 0) (wrap64 (x9 + 1)) x502000 x502001)) else (none)) else (none)) else (spec_l07Root.l1 k x1 x6 x7 false (wrap64 (x9 + 1)) x502000 x502001)) else (if x8 = true then (if 0 ≤ x502000 then (if (x502000 : Int).toNat ≤ 35184372088832 then (spec_l07Root.l2 k x1 x6 x7 (List.replicate (x502000 : Int).toNat 0) (([] : List Int)) 0 x502000 x502001) else (none)) else (none)) else (spec_l07Root.l0 k x1 x6 (wrap64 (x7 - 1)) x502000 x502001))
def spec_l07Root.l2 : Nat → List Int → List Int → Int → List Int → List Int → Int → Int → List Int → Option (List Int × Int)
 | 0, _, _, _, _, _, _, _, _ => none
 | k + 1, x1, x6, x7, x10, x11, x12, x502000, x502001 => if x12 < (x1.length : Int) then (if 0 ≤ x12 then (if 0 ≤ (rd x1 x12) then (if (rd x1 x12) < (x10.length : Int) then (if (rd x1 x12) < (x6.length : Int) then (if x7 = 0 then (none) else (if (rd x10 (rd x1 x12)) < (wrap64 (Int.tdiv (rd x6 (rd x1 x12)) x7)) then (if x11.length < 17592186044416 then (spec_l07Root.l2 k x1 x6 x7 (x10.set ((rd x1 x12) : Int).toNat (wrap64 ((rd x10 (rd x1 x12)) + 1))) (x11 ++ [rd x1 x12]) (wrap64 (x12 + 1)) x502000 x502001) else (none)) else (spec_l07Root.l2 k x1 x6 x7 x10 x11 (wrap64 (x12 + 1)) x502000 x502001))) else (none)) else (none)) else (none)) else (none)) else ((spec_l07Power.f k x11 x7).bind fun t526 => ((spec_l03Same.f k x502000 x502001 t526 x1).bind fun t529 => (if t529 = true then ((spec_l03Normal.f k x502000 x502001 x11).bind fun t530 => (some (t530, x7))) else (spec_l07Root.l0 k x1 x6 (wrap64 (x7 - 1)) x502000 x502001))))
end
def spec_l07Root.f (k : Nat) (a0_0 : Int) (l0_1 : List Int) (l1 : List Int) : Option (List Int × Int) := (spec_l03Content.f k a0_0 l0_1 l1).bind fun t502 => (spec_l07Root.l0 k l1 t502 (l1.length : Int) a0_0 l0_1)

def spec_l07Root.T15 : Bool × List (List Nat × List Nat) := (true, [([], []), ([], []), ([], []), ([1, 2], [1, 2]), ([3], [3]), ([0, 4], [0, 4]), ([5], [5]), ([], []), ([], []), ([], []), ([8, 9], [8, 9]), ([10], [10]), ([7, 11], [7, 11]), ([12], [12]), ([], []), ([13, 14], [13, 14]), ([6, 15], [6, 15])])
def spec_l07Root.B15 : List Nat := [0, 0, 0, 6, 14, 31, 63, 0, 0, 0, 768, 1792, 3968, 8064, 0, 32640, 65535]
theorem spec_l07Root.tab15 : rtab .any (opsOf Tryd.f71 15) = spec_l07Root.T15 := by kernel_rfl
theorem spec_l07Root.bits15 : waitsOk spec_l07Root.T15.2 spec_l07Root.B15 = true := by kernel_rfl
set_option maxHeartbeats 8000000 in
set_option maxRecDepth 100000 in
theorem spec_l07Root.calls (k : Nat) (a0_0 : Int) (A0_1 : Option Addr) (c0_1 : Nat) (l0_1 : List Int) (A1 : Option Addr) (c1 : Nat) (l1 : List Int) (r1 : List Int) (r2 : Int) (w : World) (hr0_1 : Kd.C (Kd.int .i64) w A0_1 l0_1.length l0_1) (hc0_1 : l0_1.length ≤ c0_1) (hr1 : Kd.C (Kd.int .i64) w A1 l1.length l1) (hc1 : l1.length ≤ c1) (h : spec_l07Root.f k a0_0 l0_1 l1 = some (r1, r2)) :
  Calls Tryd.prog 71 #[.agg #[.int .i64 a0_0, .slice A0_1 l0_1.length c0_1], .slice A1 l1.length c1] w fun e w' => ∃ v0_ : Value, e = .returned (.tuple #[v0_, .int .i64 r2]) ∧ Kd.R (Kd.int .i64) 2 w' w.heap.size (fun _ => True) v0_ r1 ∧ Below w.heap.size w w' := by
 have hu28 := Tryd.underlying28
 have HR0_1 := zA hr0_1
 have HC0_1 := zA hc0_1
 clear hr0_1 hc0_1
 have HR1 := zA hr1
 have HC1 := zA hc1
 clear hr1 hc1
 have HB := zA (kW w.heap.size w)
 have H := h
 unfold spec_l07Root.f at H
 clear h
 obtain ⟨t502, A3, H⟩ := zb H
 try dsimp only at H
 have H' := zA H
 clear H
 go_enter Tryd.func71, Tryd.ntmps71
 go_wp2_with (first | (refine zBE 2 #[.int .i64 a0_0, .slice A0_1 l0_1.length c0_1] 28 ?_; intro gb501 hg w4 hbox hb; have BK501 := zA (hbox); have GW501 := zA (zBH hg HB.out); have GE501 := zA (zBH hg HB.out); replace HB := zA (kQ (zQ HB.out) hb); clear hb hbox hg; obtain ⟨hcz5_0, hcz5_1, hfz5_0, hfz5_1⟩ := zB3 BK501.out) | (refine zO (some 15) Tryd.func112 #[.agg #[.int .i64 a0_0, .slice A0_1 l0_1.length c0_1], .slice A1 l1.length c1] ?_; (with_reducible refine (spec_l03Content.calls k a0_0 _ _ l0_1 _ _ l1 t502 _ ?side1 ?side2 ?side3 ?side4 A3.out).mono ?_); (case side1 => exact zS (kO HR0_1.out HB.out)); (case side2 => exact HC0_1.out); (case side3 => exact zS (kO HR1.out HB.out)); (case side4 => exact HC1.out); rintro e w6 ⟨v503, rfl, ho0, hb⟩; refine ⟨_, rfl, ?_⟩; have HO504 := zA (kI ho0 (kP (zT HB.out GE501.out))); replace BK501 := zA (zB1 BK501.out hb); replace HB := zA (kQ (zT HB.out GE501.out) hb); (try clear hb); (try clear ho0)))
 go_loopg [7] k (fun kq v7 w' => ∃ (x6_1 : List Int) (x7_1 : Int), v7 = .int .i64 x7_1 ∧ Aside0 (spec_l07Root.l0 kq l1 x6_1 x7_1 a0_0 l0_1 = some (r1, r2)) ∧ Aside0 (kq ≤ k) ∧ Aside0 (Kd.R (Kd.int .i64) 2 w' w.heap.size (fun _ => True) v503 x6_1) ∧ Aside0 (w'.heap[gb501]? = some (.cells #[.int .i64 a0_0, (.slice A0_1 l0_1.length c0_1)] 28 (0, 0))) ∧ Aside0 (Below w.heap.size w w'))
 case atStart => exact ⟨(t502), ((l1.length : Int)), zs, H', ⟨Nat.le_refl _⟩, ⟨zP HO504.out⟩, ⟨zR BK501.out⟩, ⟨zT HB.out GE501.out⟩⟩
 case round =>
  clear H'
  try clear c1
  try clear hcz5_0
  try clear hcz5_1
  try clear hfz5_0
  try clear hfz5_1
  obtain ⟨x6_1, x7_1, rfl, HA, HK1, HO_6, BK501, HB⟩ := hrel
  cases gk with
  | zero => exact absurd HA.out (by simp [spec_l07Root.l0])
  | succ k1 =>
   have H := HA.out
   clear HA
   simp only [spec_l07Root.l0] at H
   by_cases c7 : x7_1 > 1
   ·rw [if_pos c7] at H
    have c7b0 : decide (1 < x7_1) = true := decide_eq_true c7
    clear c7
    have H' := zA H
    clear H
    go_wp2
    go_loopg [8, 9] k1 (fun kq v8 v9 w' => ∃ (x8_2 : Bool) (x9_2 : Int), v8 = .bool x8_2 ∧ v9 = .int .i64 x9_2 ∧ Aside0 (spec_l07Root.l1 kq l1 x6_1 x7_1 x8_2 x9_2 a0_0 l0_1 = some (r1, r2)) ∧ Aside0 (kq ≤ k1) ∧ Aside0 (Kd.R (Kd.int .i64) 2 w' w.heap.size (fun _ => True) v503 x6_1) ∧ Aside0 (w'.heap[gb501]? = some (.cells #[.int .i64 a0_0, (.slice A0_1 l0_1.length c0_1)] 28 (0, 0))) ∧ Aside0 (Below w.heap.size w w'))
    case atStart => exact ⟨(true), (0), zs, zs, H', ⟨Nat.le_refl _⟩, ⟨zP HO_6.out⟩, ⟨zR BK501.out⟩, ⟨zT HB.out GE501.out⟩⟩
    case round =>
     clear H'
     try clear c1
     try clear c7
     try clear hcz5_0
     try clear hcz5_1
     try clear hfz5_0
     try clear hfz5_1
     obtain ⟨x8_2, x9_2, rfl, rfl, HA, HK2, HO_6, BK501, HB⟩ := hrel
     cases gk with
     | zero => exact absurd HA.out (by simp [spec_l07Root.l1])
     | succ k2 =>
      have H := HA.out
      clear HA
      simp only [spec_l07Root.l1] at H
      by_cases c8 : x9_2 < a0_0
      ·rw [if_pos c8] at H
       have c8b0 : decide (x9_2 < a0_0) = true := decide_eq_true c8
       clear c8
       by_cases c9 : x8_2 = true
       ·subst c9
        rw [if_pos rfl] at H
        by_cases c10 : 0 ≤ x9_2
        ·rw [if_pos c10] at H
         have c10b0 : decide (0 ≤ x9_2) = true := decide_eq_true c10
         clear c10
         by_cases c11 : x9_2 < (x6_1.length : Int)
         ·rw [if_pos c11] at H
          have c11b0 : decide (x9_2 < (x6_1.length : Int)) = true := decide_eq_true c11
          clear c11
          by_cases c12 : x7_1 = 0
          ·rw [if_pos c12] at H
           exact absurd H (by simp)
          rw [if_neg c12] at H
          obtain ⟨c12b0, c12b1⟩ := zT2 c12
          have H' := zA H
          clear H
          obtain ⟨hcz13_0, hcz13_1, hfz13_0, hfz13_1⟩ := zB3 BK501.out
          obtain ⟨Ao14, co14, eo14⟩ := kM HO_6.out
          subst eo14
          have p508 : 0 ≤ (x9_2 : Int) := zd
          have q508 : x9_2 < (x6_1.length : Int) := zd
          obtain ⟨ad508, e508, hx508_0⟩ := Kd.at_int (kB HO_6.out).2.2 x9_2 p508 q508
          cases e508
          replace p508 := eq_true p508
          replace q508 := eq_true q508
          go_wp2
          go_roundg k2
          case measure => have := HK1.out; have := HK2.out; omega
          case rel => exact ⟨(((Int.tmod (rd x6_1 x9_2) x7_1) == 0)), (wrap64 (x9_2 + 1)), zs, zs, H', ⟨by have := HK1.out; have := HK2.out; omega⟩, ⟨zP HO_6.out⟩, ⟨zR BK501.out⟩, ⟨zT HB.out GE501.out⟩⟩
         rw [if_neg c11] at H
         exact absurd H (by simp)
        rw [if_neg c10] at H
        exact absurd H (by simp)
       replace c9 := Bool.eq_false_iff.mpr c9
       subst c9
       rw [if_neg (show ¬ (false = true) by decide)] at H
       have H' := zA H
       clear H
       obtain ⟨hcz15_0, hcz15_1, hfz15_0, hfz15_1⟩ := zB3 BK501.out
       go_wp2
       go_roundg k2
       case measure => have := HK1.out; have := HK2.out; omega
       case rel => exact ⟨(false), (wrap64 (x9_2 + 1)), zs, zs, H', ⟨by have := HK1.out; have := HK2.out; omega⟩, ⟨zP HO_6.out⟩, ⟨zR BK501.out⟩, ⟨zT HB.out GE501.out⟩⟩
      rw [if_neg c8] at H
      have c8b0 : decide (x9_2 < a0_0) = false := decide_eq_false c8
      clear c8
      by_cases c16 : x8_2 = true
      ·subst c16
       rw [if_pos rfl] at H
       by_cases c17 : 0 ≤ a0_0
       ·rw [if_pos c17] at H
        have c17b0 := eq_true c17
        have c17b1 : decide (0 ≤ a0_0) = true := decide_eq_true c17
        clear c17
        by_cases c18 : (a0_0 : Int).toNat ≤ 35184372088832
        ·rw [if_pos c18] at H
         have c18b0 := eq_true c18
         have c18b1 : decide ((a0_0 : Int).toNat ≤ 35184372088832) = true := decide_eq_true c18
         clear c18
         obtain ⟨y509, hy509⟩ : ∃ y_ : List Int, y_ = (List.replicate (a0_0 : Int).toNat 0) := ⟨_, rfl⟩
         replace H : (spec_l07Root.l2 k2 l1 x6_1 x7_1 y509 (([] : List Int)) 0 a0_0 l0_1) = some (r1, r2) := zy hy509 H
         have Ny509 := zA hy509
         clear hy509
         obtain ⟨y512, hy512⟩ : ∃ y_ : List Int, y_ = (([] : List Int)) := ⟨_, rfl⟩
         replace H : (spec_l07Root.l2 k2 l1 x6_1 x7_1 y509 y512 0 a0_0 l0_1) = some (r1, r2) := zy hy512 H
         have Ny512 := zA hy512
         clear hy512
         have H' := zA H
         clear H
         obtain ⟨hcz19_0, hcz19_1, hfz19_0, hfz19_1⟩ := zB3 BK501.out
         go_wp2_with (first | ((with_reducible refine kS (N := 42) rfl ?_); refine Kd.R_make (Kd.int .i64) _ 2 rfl (N := 42) rfl 22 _ _ rfl a0_0 rfl rfl Tryd.underlying22 (.int .i64 0) 8 info2 rfl (by decide) (by omega) 0 (ok := fun _ => True) (okp := fun _ => True) rfl (fun _ hk => hk) trivial (zd) (Nat.le_trans (Nat.mul_le_mul_right _ (zd : a0_0.toNat ≤ 35184372088832)) (by omega)) (kW _ _) (Nat.le_refl _) ?_; intro v510 w20 ho21 hb hg_ hnew_; clear hg_ hnew_; (first | rw [← Ny509.out] at ho21 | (simp only [Int.reduceToNat] at ho21; rw [← Ny509.out] at ho21)); have HO511 := zA (kI (kF ho21 (kH (zP HO_6.out))) (kP (zT HB.out GE501.out))); replace HO_6 := zA (kE (zP HO_6.out) (kC ho21) hb); replace BK501 := zA (zB1 BK501.out hb); replace HB := zA (kQ (zT HB.out GE501.out) hb); clear hb ho21) | ((with_reducible refine kS (N := 43) rfl ?_); refine Kd.R_lit (Kd.int .i64) _ 2 ?hg (N := 43) ?hd (xs := ([] : List Int)) (inner := []) (ok := fun _ => True) (okp := fun _ => True) ?hr ?hp (fun _ hk => hk) trivial (kW _ _) (Nat.le_refl _) (by simp) ?_; (case hd => rfl); (case hg => rfl); (case hr => first | (go_simp; done) | (go_simp; rfl)); (case hp => exact (Reps.none _ _)); intro v513 w22 ho23 hb hg_ hnew_; clear hg_ hnew_; (first | rw [← Ny512.out] at ho23 | (simp only [Int.reduceToNat] at ho23; rw [← Ny512.out] at ho23)); have HO514 := zA (kI (kF (kF ho23 (kH (zP HO_6.out))) (kH (zP HO511.out))) (kP (zT HB.out GE501.out))); replace HO_6 := zA (kE (zP HO_6.out) (kC ho23) hb); replace HO511 := zA (kE (zP HO511.out) (kC ho23) hb); replace BK501 := zA (zB1 BK501.out hb); replace HB := zA (kQ (zT HB.out GE501.out) hb); clear hb ho23))
         go_loopg [11, 12] k2 (fun kq v11 v12 w' => ∃ (x10_3 : List Int) (x11_3 : List Int) (x12_3 : Int), v12 = .int .i64 x12_3 ∧ Aside0 (spec_l07Root.l2 kq l1 x6_1 x7_1 x10_3 x11_3 x12_3 a0_0 l0_1 = some (r1, r2)) ∧ Aside0 (kq ≤ k2) ∧ Aside0 (Kd.R (Kd.int .i64) 2 w' w.heap.size (fun k_ => some k_ ≠ (v510 : Value).ownBlock ∧ some k_ ≠ (v11 : Value).ownBlock) v503 x6_1) ∧ Aside0 (Kd.R (Kd.int .i64) 2 w' w.heap.size (fun k_ => some k_ ≠ (v503 : Value).ownBlock ∧ some k_ ≠ (v11 : Value).ownBlock) v510 x10_3) ∧ Aside0 (Kd.R (Kd.int .i64) 2 w' w.heap.size (fun k_ => some k_ ≠ (v503 : Value).ownBlock ∧ some k_ ≠ (v510 : Value).ownBlock) v11 x11_3) ∧ Aside0 (w'.heap[gb501]? = some (.cells #[.int .i64 a0_0, (.slice A0_1 l0_1.length c0_1)] 28 (0, 0))) ∧ Aside0 (Below w.heap.size w w'))
         case atStart => exact ⟨(y509), (y512), (0), zs, H', ⟨Nat.le_refl _⟩, ⟨zPM HO_6.out (fun _ hk => ⟨hk.1.2, hk.2⟩)⟩, ⟨zPM HO511.out (fun _ hk => ⟨hk.1.2, hk.2⟩)⟩, ⟨zPM HO514.out (fun _ hk => ⟨hk.1.2, hk.2⟩)⟩, ⟨zR BK501.out⟩, ⟨zT HB.out GE501.out⟩⟩
         case round =>
          clear H'
          try clear c1
          try clear hx5
          try clear c7
          try clear c8
          try clear c9
          try clear c10
          try clear c11
          try clear c12
          try clear c16
          try clear c17
          try clear c18
          try clear hcz13_0
          try clear hcz13_1
          try clear hcz15_0
          try clear hcz15_1
          try clear hcz19_0
          try clear hcz19_1
          try clear hcz5_0
          try clear hcz5_1
          try clear hfz13_0
          try clear hfz13_1
          try clear hfz15_0
          try clear hfz15_1
          try clear hfz19_0
          try clear hfz19_1
          try clear hfz5_0
          try clear hfz5_1
          try clear hx508_0
          obtain ⟨x10_3, x11_3, x12_3, rfl, HA, HK3, HO_6, HO_10, HO_11, BK501, HB⟩ := hrel
          cases gk with
          | zero => exact absurd HA.out (by simp [spec_l07Root.l2])
          | succ k3 =>
           have H := HA.out
           clear HA
           simp only [spec_l07Root.l2] at H
           by_cases c24 : x12_3 < (l1.length : Int)
           ·rw [if_pos c24] at H
            have c24b0 : decide (x12_3 < (l1.length : Int)) = true := decide_eq_true c24
            clear c24
            by_cases c25 : 0 ≤ x12_3
            ·rw [if_pos c25] at H
             have c25b0 : decide (0 ≤ x12_3) = true := decide_eq_true c25
             clear c25
             by_cases c26 : 0 ≤ (rd l1 x12_3)
             ·rw [if_pos c26] at H
              have c26b0 : decide (0 ≤ (rd l1 x12_3)) = true := decide_eq_true c26
              clear c26
              by_cases c27 : (rd l1 x12_3) < (x10_3.length : Int)
              ·rw [if_pos c27] at H
               have c27b0 : decide ((rd l1 x12_3) < (x10_3.length : Int)) = true := decide_eq_true c27
               clear c27
               by_cases c28 : (rd l1 x12_3) < (x6_1.length : Int)
               ·rw [if_pos c28] at H
                have c28b0 : decide ((rd l1 x12_3) < (x6_1.length : Int)) = true := decide_eq_true c28
                clear c28
                by_cases c29 : x7_1 = 0
                ·rw [if_pos c29] at H
                 exact absurd H (by simp)
                rw [if_neg c29] at H
                obtain ⟨c29b0, c29b1⟩ := zT2 c29
                by_cases c30 : (rd x10_3 (rd l1 x12_3)) < (wrap64 (Int.tdiv (rd x6_1 (rd l1 x12_3)) x7_1))
                ·rw [if_pos c30] at H
                 have c30b0 : decide ((rd x10_3 (rd l1 x12_3)) < (wrap64 (Int.tdiv (rd x6_1 (rd l1 x12_3)) x7_1))) = true := decide_eq_true c30
                 clear c30
                 by_cases c31 : x11_3.length < 17592186044416
                 ·rw [if_pos c31] at H
                  have LMc31 := zA c31
                  clear c31
                  obtain ⟨y520, hy520⟩ : ∃ y_ : List Int, y_ = (x11_3 ++ [rd l1 x12_3]) := ⟨_, rfl⟩
                  replace H : (spec_l07Root.l2 k3 l1 x6_1 x7_1 (x10_3.set ((rd l1 x12_3) : Int).toNat (wrap64 ((rd x10_3 (rd l1 x12_3)) + 1))) y520 (wrap64 (x12_3 + 1)) a0_0 l0_1) = some (r1, r2) := zy hy520 H
                  have Ny520 := zA hy520
                  clear hy520
                  obtain ⟨y525, hy525⟩ : ∃ y_ : List Int, y_ = (x10_3.set ((rd l1 x12_3) : Int).toNat (wrap64 ((rd x10_3 (rd l1 x12_3)) + 1))) := ⟨_, rfl⟩
                  replace H : (spec_l07Root.l2 k3 l1 x6_1 x7_1 y525 y520 (wrap64 (x12_3 + 1)) a0_0 l0_1) = some (r1, r2) := zy hy525 H
                  have Ny525 := zA hy525
                  clear hy525
                  have H' := zA H
                  clear H
                  try go_wp2
                  replace HO_6 := zA (zH HO_6.out)
                  replace HO_10 := zA (zH HO_10.out)
                  replace HO_11 := zA (zH HO_11.out)
                  replace BK501 := zA (zK BK501.out)
                  replace HB := zA (zD HB.out)
                  have p515 : 0 ≤ (x12_3 : Int) := zd
                  have q515 : x12_3 < (l1.length : Int) := zd
                  obtain ⟨ad515, e515, hx515_0⟩ := Kd.at_int HR1.out x12_3 p515 q515
                  have hw515_0 := hx515_0
                  cases e515
                  replace hx515_0 := (HB.out.cell (jG w _ hx515_0)).trans hx515_0
                  replace p515 := eq_true p515
                  replace q515 := eq_true q515
                  obtain ⟨Ao34, co34, eo34⟩ := kM HO_10.out
                  (first | subst eo34 | (injection eo34 with f1_ f2_ f3_; have f4_ := f1_.symm; have f5_ := f3_.symm; clear f1_ f2_ f3_; subst f4_; subst f5_))
                  have p516 : 0 ≤ ((rd l1 x12_3) : Int) := zd
                  have q516 : (rd l1 x12_3) < (x10_3.length : Int) := zd
                  obtain ⟨ad516, e516, hx516_0⟩ := Kd.at_int (kB HO_10.out).2.2 (rd l1 x12_3) p516 q516
                  cases e516
                  replace p516 := eq_true p516
                  replace q516 := eq_true q516
                  have p517 : 0 ≤ (x12_3 : Int) := zd
                  have q517 : x12_3 < (l1.length : Int) := zd
                  obtain ⟨ad517, e517, hx517_0⟩ := Kd.at_int HR1.out x12_3 p517 q517
                  have hw517_0 := hx517_0
                  obtain rfl : ad515 = ad517 := (by injection e517)
                  replace hx517_0 := (HB.out.cell (jG w _ hx517_0)).trans hx517_0
                  replace p517 := eq_true p517
                  replace q517 := eq_true q517
                  obtain ⟨Ao35, co35, eo35⟩ := kM HO_6.out
                  (first | subst eo35 | (injection eo35 with f1_ f2_ f3_; have f4_ := f1_.symm; have f5_ := f3_.symm; clear f1_ f2_ f3_; subst f4_; subst f5_))
                  have p518 : 0 ≤ ((rd l1 x12_3) : Int) := zd
                  have q518 : (rd l1 x12_3) < (x6_1.length : Int) := zd
                  obtain ⟨ad518, e518, hx518_0⟩ := Kd.at_int (kB HO_6.out).2.2 (rd l1 x12_3) p518 q518
                  cases e518
                  replace p518 := eq_true p518
                  replace q518 := eq_true q518
                  refine start_ (n := 17) (S := fun w' => w'.cell? (ad515.add (x12_3).toNat) = some (.int .i64 (rd l1 x12_3)) ∧ w'.cell? (ad516.add ((rd l1 x12_3)).toNat) = some (.int .i64 (rd x10_3 (rd l1 x12_3))) ∧ w'.cell? (ad515.add (x12_3).toNat) = some (.int .i64 (rd l1 x12_3)) ∧ w'.cell? (ad518.add ((rd l1 x12_3)).toNat) = some (.int .i64 (rd x6_1 (rd l1 x12_3)))) (ds := []) #[false, false, false, false, false, false, false, false, false, false, false, false, false, false, false, false, false] (by kernel_rfl) rfl rfl ⟨(pw_cell_below HB.out hw515_0), hx516_0, (pw_cell_below HB.out hw517_0), hx518_0⟩ (fun hHeld => ?_); refine with_tabW spec_l07Root.tab15 spec_l07Root.bits15 (fun HT_ HW_ => ?_)
                  generalize wr.drew = w33 at HO_6 HO_10 HO_11 BK501 HB hx515_0 hx516_0 hx517_0 hx518_0 hHeld ⊢
                  refine zp 0 (some 50) #[true, false, false, false, false, false, false, false, false, false, false, false, false, false, false, false, false] HT_.out ?_
                  refine zp 1 (some 51) #[true, true, false, false, false, false, false, false, false, false, false, false, false, false, false, false, false] HT_.out ?_
                  refine zp 2 (some 52) #[true, true, true, false, false, false, false, false, false, false, false, false, false, false, false, false, false] HT_.out ?_
                  refine zp 3 (some 53) #[true, true, true, true, false, false, false, false, false, false, false, false, false, false, false, false, false] HT_.out ?_
                  refine zp 7 (some 57) #[true, true, true, true, false, false, false, true, false, false, false, false, false, false, false, false, false] HT_.out ?_
                  refine zp 8 (some 58) #[true, true, true, true, false, false, false, true, true, false, false, false, false, false, false, false, false] HT_.out ?_
                  refine zp 9 (some 59) #[true, true, true, true, false, false, false, true, true, true, false, false, false, false, false, false, false] HT_.out ?_
                  refine zp 10 (some 60) #[true, true, true, true, false, false, false, true, true, true, true, false, false, false, false, false, false] HT_.out ?_
                  refine zp 14 (some 64) #[true, true, true, true, false, false, false, true, true, true, true, false, false, false, true, false, false] HT_.out ?_
                  refine zf 4 (some 54) #[true, true, true, true, true, false, false, true, true, true, true, false, false, false, true, false, false] HT_.out HW_.out hHeld ?_
                  refine zp 5 (some 55) #[true, true, true, true, true, true, false, true, true, true, true, false, false, false, true, false, false] HT_.out ?_
                  refine zf 6 (some 56) #[true, true, true, true, true, true, true, true, true, true, true, false, false, false, true, false, false] HT_.out HW_.out hHeld ?_
                  refine zf 11 (some 61) #[true, true, true, true, true, true, true, true, true, true, true, true, false, false, true, false, false] HT_.out HW_.out hHeld ?_
                  refine zp 12 (some 62) #[true, true, true, true, true, true, true, true, true, true, true, true, true, false, true, false, false] HT_.out ?_
                  refine zf 13 (some 63) #[true, true, true, true, true, true, true, true, true, true, true, true, true, true, true, false, false] HT_.out HW_.out hHeld ?_
                  refine zp 15 (some 65) #[true, true, true, true, true, true, true, true, true, true, true, true, true, true, true, true, false] HT_.out ?_
                  refine zp 16 (some 66) #[true, true, true, true, true, true, true, true, true, true, true, true, true, true, true, true, true] HT_.out ?_
                  refine done_ (done_of HT_.out (by kernel_rfl)) ?_
                  have p519 : 0 ≤ (x12_3 : Int) := zd
                  have q519 : x12_3 < (l1.length : Int) := zd
                  obtain ⟨ad519, e519, hx519_0⟩ := Kd.at_int HR1.out x12_3 p519 q519
                  obtain rfl : ad515 = ad519 := (by injection e519)
                  replace hx519_0 := (HB.out.cell (jG w _ hx519_0)).trans hx519_0
                  replace p519 := eq_true p519
                  replace q519 := eq_true q519
                  try go_wp2_with (first | ((with_reducible refine gate_builtin (b := .append) (xs := #[.tmp 67, .tmp 72]) rfl ?_); at_builtin; refine Kd.R_append (Kd.int .i64) (w0 := w) w.heap.size rfl (.tmp 67) (.tmp 72) 22 2 (.int .i64 0) 8 rfl Tryd.underlying22 info2 rfl (by decide) (by omega) u11 x11_3 (rd l1 x12_3) [.int .i64 (rd l1 x12_3)] (fun k_ => some k_ ≠ (.slice (some ad518) x6_1.length co35 : Value).ownBlock ∧ some k_ ≠ (.slice (some ad516) x10_3.length co34 : Value).ownBlock) (fun _ => False) rfl rfl ?aP (fun _ hk => hk.elim) ?aF ?aO ?aB ?aS ?aL ?_; (case aP => exact rfl); (case aB => exact (zT HB.out GE501.out)); (case aF => exact (fun k_ hk => ⟨jF (kH (zP HO_6.out)) k_ hk, jF (kH (zP HO_10.out)) k_ hk⟩)); (case aO => exact (zP HO_11.out)); (case aS => exact (kP (zT HB.out GE501.out))); (case aL => have := LMc31.out; omega); intro v521 w36 ho hb hg hat; rw [← Ny520.out] at ho; replace HO_6 := zA (Kd.R_after (ok := (fun k_ => some k_ ≠ (.slice (some ad516) x10_3.length co34 : Value).ownBlock)) (zP HO_6.out) hg hat); replace HO_10 := zA (Kd.R_after (ok := (fun k_ => some k_ ≠ (.slice (some ad518) x6_1.length co35 : Value).ownBlock)) (zP HO_10.out) hg hat); replace BK501 := zA (blk_grown (g := gb501) (o := .cells #[.int .i64 a0_0, .slice A0_1 l0_1.length c0_1] 28 (0, 0)) (zR BK501.out) hg (Kd.R_ne HO_11.out BK501.out (by decide))); replace HB := zA (hb); have HO522 := zA (ho); clear HO_11; clear ho hb hg hat; have p523 : 0 ≤ (x12_3 : Int) := zd; have q523 : x12_3 < (l1.length : Int) := zd; obtain ⟨ad523, e523, hx523_0⟩ := Kd.at_int HR1.out x12_3 p523 q523; obtain rfl : ad515 = ad523 := (by injection e523); replace hx523_0 := (HB.out.cell (jG w _ hx523_0)).trans hx523_0; replace p523 := eq_true p523; replace q523 := eq_true q523; have p524 : 0 ≤ ((rd l1 x12_3) : Int) := zd; have q524 : (rd l1 x12_3) < (x10_3.length : Int) := zd; obtain ⟨ad524, e524, hx524_0⟩ := Kd.at_int (kB HO_10.out).2.2 (rd l1 x12_3) p524 q524; obtain rfl : ad516 = ad524 := (by injection e524); replace p524 := eq_true p524; replace q524 := eq_true q524; have p32 : 0 ≤ ((rd l1 x12_3) : Int) := zd; have q32 : ((rd l1 x12_3) : Int) < ((x10_3.length : Int) : Int) := zd; obtain ⟨go32, co32, eo32, gb32, gl32, cl32, HG32⟩ := Kd.R_form HO_10.out (by omega); (first | cases eo32 | (injection eo32 with ea_ en_ ec_; (first | subst ea_ | (injection ea_ with ea_; subst ea_)); subst ec_; clear en_)); have GB32 := zA gb32; have GG32 := zA HG32; clear gb32 gl32 HG32; (first | simp only [add_plain] at hx516_0 | skip); (first | simp only [add_plain] at hx524_0 | skip); obtain ⟨hx32_0, hf32_0⟩ := Kd.R_celln 0 HO_10.out ((rd l1 x12_3) : Int) p32 q32; replace p32 := eq_true p32; replace q32 := eq_true q32; obtain ⟨hy37_, hz37_⟩ := Kd.R_celln 0 HO_10.out ((rd l1 x12_3) : Int) (zd) (zd); have HP37 := Kd.R_putg HO_10.out ((rd l1 x12_3) : Int) (wrap64 ((rd x10_3 (rd l1 x12_3)) + 1))) | ((with_reducible refine gate_store (t := 2) (p := 82) rfl ?_); refine store_event (t := 2) (p := 82) (v := ?vo_w38) (w1 := (w36.setCell ⟨go32, ((rd l1 x12_3) : Int).toNat, none⟩ (.int .i64 (wrap64 ((rd x10_3 (rd l1 x12_3)) + 1))))) ?hg ?ho ?hn ?hr ?_; (case ho => rfl); (case hg => rfl); (case hn => rfl); (case hr => first | (go_simp; done) | (go_simp; rfl)); intro w38 hw; have hg : w36.grownBy w38 (some go32) := (by rw [hw]; exact HP37.2); have hp_ : Kd.R (Kd.int .i64) 2 w38 w.heap.size (fun k_ => some k_ ≠ (.slice (some ad518) x6_1.length co35 : Value).ownBlock ∧ some k_ ≠ (v521 : Value).ownBlock) (.slice (some ⟨go32, 0, none⟩) x10_3.length co34) y525 := (by rw [hw, Ny525.out]; exact HP37.1); clear HP37; replace HO_6 := zA (Kd.R_after (v := (.slice (some ⟨go32, 0, none⟩) x10_3.length co34)) (v1 := (.slice (some ⟨go32, 0, none⟩) x10_3.length co34)) (ok := (fun k_ => some k_ ≠ (v521 : Value).ownBlock)) (by (with_reducible repeat (first | apply zF | apply zG | apply zH)); exact kA HO_6.out (fun _ hk => ⟨hk.2, hk.1⟩)) hg (.inl rfl)); replace BK501 := zA (blk_grown (g := gb501) (o := .cells #[.int .i64 a0_0, .slice A0_1 l0_1.length c0_1] 28 (0, 0)) (zR BK501.out) hg (Kd.R_ne HO_10.out BK501.out (by decide))); replace HO_10 := zA (hp_); replace HO522 := zA (Kd.R_after (v := (.slice (some ⟨go32, 0, none⟩) x10_3.length co34)) (v1 := (.slice (some ⟨go32, 0, none⟩) x10_3.length co34)) (ok := (fun k_ => some k_ ≠ (.slice (some ad518) x6_1.length co35 : Value).ownBlock)) (zP HO522.out) hg (.inl rfl)); replace HB := zA ((by rw [hw]; exact zE (HB.out) GB32.out : Below w.heap.size w w38)); clear hg hw hp_))
                  go_roundg k3
                  case measure => have := HK1.out; have := HK2.out; have := HK3.out; omega
                  case rel => exact ⟨(y525), (y520), (wrap64 (x12_3 + 1)), zs, H', ⟨by have := HK1.out; have := HK2.out; have := HK3.out; omega⟩, ⟨zPM HO_6.out (fun _ hk => ⟨hk.2, hk.1⟩)⟩, ⟨zP HO_10.out⟩, ⟨zP HO522.out⟩, ⟨zR BK501.out⟩, ⟨zT HB.out GE501.out⟩⟩
                 rw [if_neg c31] at H
                 exact absurd H (by simp)
                rw [if_neg c30] at H
                have c30b0 : decide ((rd x10_3 (rd l1 x12_3)) < (wrap64 (Int.tdiv (rd x6_1 (rd l1 x12_3)) x7_1))) = false := decide_eq_false c30
                clear c30
                have H' := zA H
                clear H
                try go_wp2
                replace HO_6 := zA (zH HO_6.out)
                replace HO_10 := zA (zH HO_10.out)
                replace HO_11 := zA (zH HO_11.out)
                replace BK501 := zA (zK BK501.out)
                replace HB := zA (zD HB.out)
                have p515 : 0 ≤ (x12_3 : Int) := zd
                have q515 : x12_3 < (l1.length : Int) := zd
                obtain ⟨ad515, e515, hx515_0⟩ := Kd.at_int HR1.out x12_3 p515 q515
                have hw515_0 := hx515_0
                cases e515
                replace hx515_0 := (HB.out.cell (jG w _ hx515_0)).trans hx515_0
                replace p515 := eq_true p515
                replace q515 := eq_true q515
                obtain ⟨Ao40, co40, eo40⟩ := kM HO_10.out
                (first | subst eo40 | (injection eo40 with f1_ f2_ f3_; have f4_ := f1_.symm; have f5_ := f3_.symm; clear f1_ f2_ f3_; subst f4_; subst f5_))
                have p516 : 0 ≤ ((rd l1 x12_3) : Int) := zd
                have q516 : (rd l1 x12_3) < (x10_3.length : Int) := zd
                obtain ⟨ad516, e516, hx516_0⟩ := Kd.at_int (kB HO_10.out).2.2 (rd l1 x12_3) p516 q516
                cases e516
                replace p516 := eq_true p516
                replace q516 := eq_true q516
                have p517 : 0 ≤ (x12_3 : Int) := zd
                have q517 : x12_3 < (l1.length : Int) := zd
                obtain ⟨ad517, e517, hx517_0⟩ := Kd.at_int HR1.out x12_3 p517 q517
                have hw517_0 := hx517_0
                obtain rfl : ad515 = ad517 := (by injection e517)
                replace hx517_0 := (HB.out.cell (jG w _ hx517_0)).trans hx517_0
                replace p517 := eq_true p517
                replace q517 := eq_true q517
                obtain ⟨Ao41, co41, eo41⟩ := kM HO_6.out
                (first | subst eo41 | (injection eo41 with f1_ f2_ f3_; have f4_ := f1_.symm; have f5_ := f3_.symm; clear f1_ f2_ f3_; subst f4_; subst f5_))
                have p518 : 0 ≤ ((rd l1 x12_3) : Int) := zd
                have q518 : (rd l1 x12_3) < (x6_1.length : Int) := zd
                obtain ⟨ad518, e518, hx518_0⟩ := Kd.at_int (kB HO_6.out).2.2 (rd l1 x12_3) p518 q518
                cases e518
                replace p518 := eq_true p518
                replace q518 := eq_true q518
                refine start_ (n := 17) (S := fun w' => w'.cell? (ad515.add (x12_3).toNat) = some (.int .i64 (rd l1 x12_3)) ∧ w'.cell? (ad516.add ((rd l1 x12_3)).toNat) = some (.int .i64 (rd x10_3 (rd l1 x12_3))) ∧ w'.cell? (ad515.add (x12_3).toNat) = some (.int .i64 (rd l1 x12_3)) ∧ w'.cell? (ad518.add ((rd l1 x12_3)).toNat) = some (.int .i64 (rd x6_1 (rd l1 x12_3)))) (ds := []) #[false, false, false, false, false, false, false, false, false, false, false, false, false, false, false, false, false] (by kernel_rfl) rfl rfl ⟨(pw_cell_below HB.out hw515_0), hx516_0, (pw_cell_below HB.out hw517_0), hx518_0⟩ (fun hHeld => ?_); refine with_tabW spec_l07Root.tab15 spec_l07Root.bits15 (fun HT_ HW_ => ?_)
                generalize wr.drew = w39 at HO_6 HO_10 HO_11 BK501 HB hx515_0 hx516_0 hx517_0 hx518_0 hHeld ⊢
                refine zp 0 (some 50) #[true, false, false, false, false, false, false, false, false, false, false, false, false, false, false, false, false] HT_.out ?_
                refine zp 1 (some 51) #[true, true, false, false, false, false, false, false, false, false, false, false, false, false, false, false, false] HT_.out ?_
                refine zp 2 (some 52) #[true, true, true, false, false, false, false, false, false, false, false, false, false, false, false, false, false] HT_.out ?_
                refine zp 3 (some 53) #[true, true, true, true, false, false, false, false, false, false, false, false, false, false, false, false, false] HT_.out ?_
                refine zp 7 (some 57) #[true, true, true, true, false, false, false, true, false, false, false, false, false, false, false, false, false] HT_.out ?_
                refine zp 8 (some 58) #[true, true, true, true, false, false, false, true, true, false, false, false, false, false, false, false, false] HT_.out ?_
                refine zp 9 (some 59) #[true, true, true, true, false, false, false, true, true, true, false, false, false, false, false, false, false] HT_.out ?_
                refine zp 10 (some 60) #[true, true, true, true, false, false, false, true, true, true, true, false, false, false, false, false, false] HT_.out ?_
                refine zp 14 (some 64) #[true, true, true, true, false, false, false, true, true, true, true, false, false, false, true, false, false] HT_.out ?_
                refine zf 4 (some 54) #[true, true, true, true, true, false, false, true, true, true, true, false, false, false, true, false, false] HT_.out HW_.out hHeld ?_
                refine zp 5 (some 55) #[true, true, true, true, true, true, false, true, true, true, true, false, false, false, true, false, false] HT_.out ?_
                refine zf 6 (some 56) #[true, true, true, true, true, true, true, true, true, true, true, false, false, false, true, false, false] HT_.out HW_.out hHeld ?_
                refine zf 11 (some 61) #[true, true, true, true, true, true, true, true, true, true, true, true, false, false, true, false, false] HT_.out HW_.out hHeld ?_
                refine zp 12 (some 62) #[true, true, true, true, true, true, true, true, true, true, true, true, true, false, true, false, false] HT_.out ?_
                refine zf 13 (some 63) #[true, true, true, true, true, true, true, true, true, true, true, true, true, true, true, false, false] HT_.out HW_.out hHeld ?_
                refine zp 15 (some 65) #[true, true, true, true, true, true, true, true, true, true, true, true, true, true, true, true, false] HT_.out ?_
                refine zp 16 (some 66) #[true, true, true, true, true, true, true, true, true, true, true, true, true, true, true, true, true] HT_.out ?_
                refine done_ (done_of HT_.out (by kernel_rfl)) ?_
                try go_wp2
                go_roundg k3
                case measure => have := HK1.out; have := HK2.out; have := HK3.out; omega
                case rel => exact ⟨(x10_3), (x11_3), (wrap64 (x12_3 + 1)), zs, H', ⟨by have := HK1.out; have := HK2.out; have := HK3.out; omega⟩, ⟨zP HO_6.out⟩, ⟨zP HO_10.out⟩, ⟨zP HO_11.out⟩, ⟨zR BK501.out⟩, ⟨zT HB.out GE501.out⟩⟩
               rw [if_neg c28] at H
               exact absurd H (by simp)
              rw [if_neg c27] at H
              exact absurd H (by simp)
             rw [if_neg c26] at H
             exact absurd H (by simp)
            rw [if_neg c25] at H
            exact absurd H (by simp)
           rw [if_neg c24] at H
           have c24b0 : decide (x12_3 < (l1.length : Int)) = false := decide_eq_false c24
           clear c24
           obtain ⟨t526, A42, H⟩ := zb H
           try dsimp only at H
           obtain ⟨t529, A43, H⟩ := zb H
           try dsimp only at H
           by_cases c44 : t529 = true
           ·subst c44
            rw [if_pos rfl] at H
            obtain ⟨t530, A45, H⟩ := zb H
            try dsimp only at H
            simp only [Option.some.injEq, Prod.mk.injEq] at H
            obtain ⟨rfl, rfl⟩ := H
            try go_wp2
            replace HO_6 := zA (zH HO_6.out)
            replace HO_10 := zA (zH HO_10.out)
            replace HO_11 := zA (zH HO_11.out)
            replace BK501 := zA (zK BK501.out)
            replace HB := zA (zD HB.out)
            obtain ⟨Ao47, co47, eo47⟩ := kM HO_11.out
            (first | subst eo47 | (injection eo47 with f1_ f2_ f3_; have f4_ := f1_.symm; have f5_ := f3_.symm; clear f1_ f2_ f3_; subst f4_; subst f5_))
            refine start_ (n := 6) (S := fun w' => w'.cell? ⟨gb501, 0, none⟩ = some (.int .i64 a0_0) ∧ w'.cell? ⟨gb501, 1, none⟩ = some (.slice A0_1 l0_1.length c0_1)) (ds := []) #[false, false, false, false, false, false] (by kernel_rfl) rfl rfl ⟨(kV BK501.out 0).trans rfl, (kV BK501.out 1).trans rfl⟩ (fun hHeld => ?_)
            generalize wr.drew = w46 at HO_6 HO_10 HO_11 BK501 HB hHeld ⊢
            refine pure_ (i := 1) (N := some 84) (v := ?_) (a' := ?_) #[false, true, false, false, false, false] rfl rfl (by kernel_rfl) (fun _ _ _ h => h) (Or.inl ⟨by rfl, ?_⟩) ?_ ?_
            rotate_left
            ·intro w'
             go_simp
             with_reducible rfl
            rotate_left
            ·simp only [Act.put, zL, zM, zN, i64_w, i32_w]
             rfl
            refine pure_ (i := 2) (N := some 85) (v := ?_) (a' := ?_) #[false, true, true, false, false, false] rfl rfl (by kernel_rfl) (fun _ _ _ h => h) (Or.inl ⟨by rfl, ?_⟩) ?_ ?_
            rotate_left
            ·intro w'
             go_simp
             with_reducible rfl
            rotate_left
            ·simp only [Act.put, zL, zM, zN, i64_w, i32_w]
             rfl
            refine pure_ (i := 4) (N := some 87) (v := ?_) (a' := ?_) #[false, true, true, false, true, false] rfl rfl (by kernel_rfl) (fun _ _ _ h => h) (Or.inl ⟨by rfl, ?_⟩) ?_ ?_
            rotate_left
            ·intro w'
             go_simp
             with_reducible rfl
            rotate_left
            ·simp only [Act.put, zL, zM, zN, i64_w, i32_w]
             rfl
            refine take_ (i := 0) (N := some 83) (v := ?_) (a' := ?_) #[true, true, true, false, true, false] rfl rfl (by kernel_rfl) (fun _ _ _ h => h) (Or.inl ⟨by rfl, ?_⟩) hHeld ?_ ?_
            rotate_left
            ·rintro w' ⟨s0, s1⟩
             go_simp
             with_reducible rfl
            rotate_left
            ·simp only [Act.put, zL, zM, zN, i64_w, i32_w]
             rfl
            refine one_ (i := 3) (N := some 86) #[true, true, true, true, true, false] rfl rfl (by kernel_rfl) (by decide) (fun K hK => ?_)
            refine goes_ Tryd.func56 (by kernel_rfl) rfl #[.slice Ao47 x11_3.length co47, .int .i64 x7_1] (by rfl) rfl rfl zg ?_
            with_reducible refine (spec_l07Power.calls k3 _ _ x11_3 x7_1 t526 _ ?side1 ?side2 A42.out).mono ?_
            (case side1 => exact zS (kB HO_11.out).2.2)
            (case side2 => exact (kB HO_11.out).2.1)
            rintro e w48 ⟨v527, rfl, ho0, hb⟩
            refine ⟨_, rfl, ?_⟩
            have HO528 := zA (kI (kF (kF (kF ho0 (kH (zP HO_6.out))) (kH (zP HO_10.out))) (kH (zP HO_11.out))) (kP (zT HB.out GE501.out)))
            replace HO_6 := zA (kE (zP HO_6.out) (kC ho0) hb)
            replace HO_10 := zA (kE (zP HO_10.out) (kC ho0) hb)
            replace HO_11 := zA (kE (zP HO_11.out) (kC ho0) hb)
            replace BK501 := zA (zB1 BK501.out hb)
            replace HB := zA (kQ (zT HB.out GE501.out) hb)
            (try clear hb)
            (try clear hb2)
            (try clear hk)
            (try clear hi)
            (try clear hgw)
            (try clear ho0)
            obtain ⟨Ao49, co49, eo49⟩ := kM HO528.out
            (first | subst eo49 | (injection eo49 with f1_ f2_ f3_; have f4_ := f1_.symm; have f5_ := f3_.symm; clear f1_ f2_ f3_; subst f4_; subst f5_))
            refine hK.out _ _ ⟨(kV BK501.out 0).trans rfl, (kV BK501.out 1).trans rfl⟩ (fun hHeld => ?_)
            clear hK K
            refine norm_ (a' := ?_) ?_ ?_
            rotate_left
            ·show Act.put _ (some 86) _ = _
             simp only [Act.put, zL, zM, zN, i64_w, i32_w]
             rfl
            refine one_ (i := 5) (N := some 88) #[true, true, true, true, true, true] rfl rfl (by kernel_rfl) (by decide) (fun K hK => ?_)
            refine goes_ Tryd.func73 (by kernel_rfl) rfl #[.agg #[.int .i64 a0_0, .slice A0_1 l0_1.length c0_1], .slice Ao49 t526.length co49, .slice A1 l1.length c1] (by rfl) rfl rfl zg ?_
            with_reducible refine (spec_l03Same.calls k3 a0_0 _ _ l0_1 _ _ t526 _ _ l1 true _ ?side1 ?side2 ?side3 ?side4 ?side5 ?side6 A43.out).mono ?_
            (case side1 => exact zS (kO HR0_1.out HB.out))
            (case side2 => exact HC0_1.out)
            (case side3 => exact zS (kB HO528.out).2.2)
            (case side4 => exact (kB HO528.out).2.1)
            (case side5 => exact zS (kO HR1.out HB.out))
            (case side6 => exact HC1.out)
            rintro e w50 ⟨rfl, hb⟩
            refine ⟨_, rfl, ?_⟩
            replace HO_6 := zA (kL (zP HO_6.out) hb)
            replace HO_10 := zA (kL (zP HO_10.out) hb)
            replace HO_11 := zA (kL (zP HO_11.out) hb)
            replace HO528 := zA (kL (zP HO528.out) hb)
            replace BK501 := zA (zB1 BK501.out hb)
            replace HB := zA (kQ (zT HB.out GE501.out) hb)
            (try clear hb)
            (try clear hb2)
            (try clear hk)
            (try clear hi)
            (try clear hgw)
            refine hK.out _ _ ⟨(kV BK501.out 0).trans rfl, (kV BK501.out 1).trans rfl⟩ (fun hHeld => ?_)
            clear hK K
            refine norm_ (a' := ?_) ?_ ?_
            rotate_left
            ·show Act.put _ (some 88) _ = _
             simp only [Act.put, zL, zM, zN, i64_w, i32_w]
             rfl
            refine done_ (by kernel_rfl) ?_
            obtain ⟨hcz51_0, hcz51_1, hfz51_0, hfz51_1⟩ := zB3 BK501.out
            try go_wp2_with (first | (refine zO (some 91) Tryd.func55 #[.agg #[.int .i64 a0_0, .slice A0_1 l0_1.length c0_1], .slice Ao47 x11_3.length co47] ?_; (with_reducible refine (spec_l03Normal.calls k3 a0_0 _ _ l0_1 _ _ x11_3 t530 _ ?side1 ?side2 ?side3 ?side4 A45.out).mono ?_); (case side1 => exact zS (kO HR0_1.out HB.out)); (case side2 => exact HC0_1.out); (case side3 => exact zS (kB HO_11.out).2.2); (case side4 => exact (kB HO_11.out).2.1); rintro e w52 ⟨v531, rfl, ho0, hb⟩; refine ⟨_, rfl, ?_⟩; have HO532 := zA (kI (kF (kF (kF (kF ho0 (kH (zP HO_6.out))) (kH (zP HO_10.out))) (kH (zP HO_11.out))) (kH (zP HO528.out))) (kP (zT HB.out GE501.out))); replace HO_6 := zA (kE (zP HO_6.out) (kC ho0) hb); replace HO_10 := zA (kE (zP HO_10.out) (kC ho0) hb); replace HO_11 := zA (kE (zP HO_11.out) (kC ho0) hb); replace HO528 := zA (kE (zP HO528.out) (kC ho0) hb); replace BK501 := zA (zB1 BK501.out hb); replace HB := zA (kQ (zT HB.out GE501.out) hb); (try clear hb); (try clear ho0)))
            go_ret2
            exact ⟨_, zr, by (with_reducible repeat (first | apply zF | apply zG | apply zH)); exact kA HO532.out (fun _ hk => trivial), zT HB.out GE501.out⟩
           replace c44 := Bool.eq_false_iff.mpr c44
           subst c44
           rw [if_neg (show ¬ (false = true) by decide)] at H
           have H' := zA H
           clear H
           try go_wp2
           replace HO_6 := zA (zH HO_6.out)
           replace HO_10 := zA (zH HO_10.out)
           replace HO_11 := zA (zH HO_11.out)
           replace BK501 := zA (zK BK501.out)
           replace HB := zA (zD HB.out)
           obtain ⟨Ao54, co54, eo54⟩ := kM HO_11.out
           (first | subst eo54 | (injection eo54 with f1_ f2_ f3_; have f4_ := f1_.symm; have f5_ := f3_.symm; clear f1_ f2_ f3_; subst f4_; subst f5_))
           refine start_ (n := 6) (S := fun w' => w'.cell? ⟨gb501, 0, none⟩ = some (.int .i64 a0_0) ∧ w'.cell? ⟨gb501, 1, none⟩ = some (.slice A0_1 l0_1.length c0_1)) (ds := []) #[false, false, false, false, false, false] (by kernel_rfl) rfl rfl ⟨(kV BK501.out 0).trans rfl, (kV BK501.out 1).trans rfl⟩ (fun hHeld => ?_)
           generalize wr.drew = w53 at HO_6 HO_10 HO_11 BK501 HB hHeld ⊢
           refine pure_ (i := 1) (N := some 84) (v := ?_) (a' := ?_) #[false, true, false, false, false, false] rfl rfl (by kernel_rfl) (fun _ _ _ h => h) (Or.inl ⟨by rfl, ?_⟩) ?_ ?_
           rotate_left
           ·intro w'
            go_simp
            with_reducible rfl
           rotate_left
           ·simp only [Act.put, zL, zM, zN, i64_w, i32_w]
            rfl
           refine pure_ (i := 2) (N := some 85) (v := ?_) (a' := ?_) #[false, true, true, false, false, false] rfl rfl (by kernel_rfl) (fun _ _ _ h => h) (Or.inl ⟨by rfl, ?_⟩) ?_ ?_
           rotate_left
           ·intro w'
            go_simp
            with_reducible rfl
           rotate_left
           ·simp only [Act.put, zL, zM, zN, i64_w, i32_w]
            rfl
           refine pure_ (i := 4) (N := some 87) (v := ?_) (a' := ?_) #[false, true, true, false, true, false] rfl rfl (by kernel_rfl) (fun _ _ _ h => h) (Or.inl ⟨by rfl, ?_⟩) ?_ ?_
           rotate_left
           ·intro w'
            go_simp
            with_reducible rfl
           rotate_left
           ·simp only [Act.put, zL, zM, zN, i64_w, i32_w]
            rfl
           refine take_ (i := 0) (N := some 83) (v := ?_) (a' := ?_) #[true, true, true, false, true, false] rfl rfl (by kernel_rfl) (fun _ _ _ h => h) (Or.inl ⟨by rfl, ?_⟩) hHeld ?_ ?_
           rotate_left
           ·rintro w' ⟨s0, s1⟩
            go_simp
            with_reducible rfl
           rotate_left
           ·simp only [Act.put, zL, zM, zN, i64_w, i32_w]
            rfl
           refine one_ (i := 3) (N := some 86) #[true, true, true, true, true, false] rfl rfl (by kernel_rfl) (by decide) (fun K hK => ?_)
           refine goes_ Tryd.func56 (by kernel_rfl) rfl #[.slice Ao54 x11_3.length co54, .int .i64 x7_1] (by rfl) rfl rfl zg ?_
           with_reducible refine (spec_l07Power.calls k3 _ _ x11_3 x7_1 t526 _ ?side1 ?side2 A42.out).mono ?_
           (case side1 => exact zS (kB HO_11.out).2.2)
           (case side2 => exact (kB HO_11.out).2.1)
           rintro e w55 ⟨v527, rfl, ho0, hb⟩
           refine ⟨_, rfl, ?_⟩
           have HO528 := zA (kI (kF (kF (kF ho0 (kH (zP HO_6.out))) (kH (zP HO_10.out))) (kH (zP HO_11.out))) (kP (zT HB.out GE501.out)))
           replace HO_6 := zA (kE (zP HO_6.out) (kC ho0) hb)
           replace HO_10 := zA (kE (zP HO_10.out) (kC ho0) hb)
           replace HO_11 := zA (kE (zP HO_11.out) (kC ho0) hb)
           replace BK501 := zA (zB1 BK501.out hb)
           replace HB := zA (kQ (zT HB.out GE501.out) hb)
           (try clear hb)
           (try clear hb2)
           (try clear hk)
           (try clear hi)
           (try clear hgw)
           (try clear ho0)
           obtain ⟨Ao56, co56, eo56⟩ := kM HO528.out
           (first | subst eo56 | (injection eo56 with f1_ f2_ f3_; have f4_ := f1_.symm; have f5_ := f3_.symm; clear f1_ f2_ f3_; subst f4_; subst f5_))
           refine hK.out _ _ ⟨(kV BK501.out 0).trans rfl, (kV BK501.out 1).trans rfl⟩ (fun hHeld => ?_)
           clear hK K
           refine norm_ (a' := ?_) ?_ ?_
           rotate_left
           ·show Act.put _ (some 86) _ = _
            simp only [Act.put, zL, zM, zN, i64_w, i32_w]
            rfl
           refine one_ (i := 5) (N := some 88) #[true, true, true, true, true, true] rfl rfl (by kernel_rfl) (by decide) (fun K hK => ?_)
           refine goes_ Tryd.func73 (by kernel_rfl) rfl #[.agg #[.int .i64 a0_0, .slice A0_1 l0_1.length c0_1], .slice Ao56 t526.length co56, .slice A1 l1.length c1] (by rfl) rfl rfl zg ?_
           with_reducible refine (spec_l03Same.calls k3 a0_0 _ _ l0_1 _ _ t526 _ _ l1 false _ ?side1 ?side2 ?side3 ?side4 ?side5 ?side6 A43.out).mono ?_
           (case side1 => exact zS (kO HR0_1.out HB.out))
           (case side2 => exact HC0_1.out)
           (case side3 => exact zS (kB HO528.out).2.2)
           (case side4 => exact (kB HO528.out).2.1)
           (case side5 => exact zS (kO HR1.out HB.out))
           (case side6 => exact HC1.out)
           rintro e w57 ⟨rfl, hb⟩
           refine ⟨_, rfl, ?_⟩
           replace HO_6 := zA (kL (zP HO_6.out) hb)
           replace HO_10 := zA (kL (zP HO_10.out) hb)
           replace HO_11 := zA (kL (zP HO_11.out) hb)
           replace HO528 := zA (kL (zP HO528.out) hb)
           replace BK501 := zA (zB1 BK501.out hb)
           replace HB := zA (kQ (zT HB.out GE501.out) hb)
           (try clear hb)
           (try clear hb2)
           (try clear hk)
           (try clear hi)
           (try clear hgw)
           refine hK.out _ _ ⟨(kV BK501.out 0).trans rfl, (kV BK501.out 1).trans rfl⟩ (fun hHeld => ?_)
           clear hK K
           refine norm_ (a' := ?_) ?_ ?_
           rotate_left
           ·show Act.put _ (some 88) _ = _
            simp only [Act.put, zL, zM, zN, i64_w, i32_w]
            rfl
           refine done_ (by kernel_rfl) ?_
           try go_wp2
           go_roundg k3
           case measure => have := HK1.out; have := HK2.out; have := HK3.out; omega
           case rel => exact ⟨(x6_1), (wrap64 (x7_1 - 1)), zs, H', ⟨by have := HK1.out; have := HK2.out; have := HK3.out; omega⟩, ⟨zPM HO_6.out (fun _ hk => trivial)⟩, ⟨zR BK501.out⟩, ⟨zT HB.out GE501.out⟩⟩
        rw [if_neg c18] at H
        exact absurd H (by simp)
       rw [if_neg c17] at H
       exact absurd H (by simp)
      replace c16 := Bool.eq_false_iff.mpr c16
      subst c16
      rw [if_neg (show ¬ (false = true) by decide)] at H
      have H' := zA H
      clear H
      obtain ⟨hcz58_0, hcz58_1, hfz58_0, hfz58_1⟩ := zB3 BK501.out
      go_wp2
      go_roundg k2
      case measure => have := HK1.out; have := HK2.out; omega
      case rel => exact ⟨(x6_1), (wrap64 (x7_1 - 1)), zs, H', ⟨by have := HK1.out; have := HK2.out; omega⟩, ⟨zP HO_6.out⟩, ⟨zR BK501.out⟩, ⟨zT HB.out GE501.out⟩⟩
   rw [if_neg c7] at H
   have c7b0 : decide (1 < x7_1) = false := decide_eq_false c7
   clear c7
   obtain ⟨t505, A59, H⟩ := zb H
   try dsimp only at H
   simp only [Option.some.injEq, Prod.mk.injEq] at H
   obtain ⟨rfl, rfl⟩ := H
   obtain ⟨hcz60_0, hcz60_1, hfz60_0, hfz60_1⟩ := zB3 BK501.out
   go_wp2_with (first | (refine zO (some 95) Tryd.func55 #[.agg #[.int .i64 a0_0, .slice A0_1 l0_1.length c0_1], .slice A1 l1.length c1] ?_; (with_reducible refine (spec_l03Normal.calls k1 a0_0 _ _ l0_1 _ _ l1 t505 _ ?side1 ?side2 ?side3 ?side4 A59.out).mono ?_); (case side1 => exact zS (kO HR0_1.out HB.out)); (case side2 => exact HC0_1.out); (case side3 => exact zS (kO HR1.out HB.out)); (case side4 => exact HC1.out); rintro e w61 ⟨v506, rfl, ho0, hb⟩; refine ⟨_, rfl, ?_⟩; have HO507 := zA (kI (kF ho0 (kH (zP HO_6.out))) (kP (zT HB.out GE501.out))); replace HO_6 := zA (kE (zP HO_6.out) (kC ho0) hb); replace BK501 := zA (zB1 BK501.out hb); replace HB := zA (kQ (zT HB.out GE501.out) hb); (try clear hb); (try clear ho0)))
   go_ret2
   exact ⟨_, zr, by (with_reducible repeat (first | apply zF | apply zG | apply zH)); exact kA HO507.out (fun _ hk => trivial), zT HB.out GE501.out⟩

/-! ### impl_firstsOf: function 113: a contract of our own -/
/-- the first ones of each letter, as many as a k-th part of all -/
def fstI (w : List Int) (k : Int) : List Int → List Int → List Int
 | _, [] => []
 | pre, a :: s => if ((pre.count a : Nat) + 1 : Int) * k ≤ (w.count a : Nat) then a :: fstI w k (pre ++ [a]) s else fstI w k (pre ++ [a]) s
def impl_firstsOf.f (l0 : List Int) (a0 : Int) : Option (List Int) := if (l0.length ≤ 24 ∧ (0 ≤ a0 ∧ a0 ≤ 24)) ∧ (∀ x ∈ l0, 0 ≤ x ∧ x ≤ 1000) then some (fstI l0 a0 [] l0) else none
theorem fstI_snoc (w : List Int) (k : Int) (a : Int) : ∀ (s pre : List Int), fstI w k pre (s ++ [a]) = fstI w k pre s ++ if (((pre ++ s).count a : Nat) + 1 : Int) * k ≤ (w.count a : Nat) then [a] else [] := by
 intro s
 induction s with
 | nil => intro pre; simp only [List.nil_append, fstI, List.append_nil]
 | cons b s ih =>
  intro pre
  have := ih (pre ++ [b])
  rw [List.append_assoc, List.singleton_append] at this
  simp only [List.cons_append, fstI]
  split
  ·rw [this]; rfl
  exact this
theorem fstI_length (w : List Int) (k : Int) : ∀ (s pre : List Int), (fstI w k pre s).length ≤ s.length := by
 intro s
 induction s with
 | nil => intro pre; simp [fstI]
 | cons b s ih =>
  intro pre
  have := ih (pre ++ [b])
  simp only [fstI]
  split <;> simp only [List.length_cons] <;> omega
theorem take_count (l : List Int) (kk : Nat) (h : kk < l.length) (a : Int) : ((l.take (kk + 1)).count a : Nat) = (l.take kk).count a + if a = l.getD kk 0 then 1 else 0 := by
 rw [List.take_add_one, List.getElem?_eq_getElem h, List.count_append, List.getD_eq_getElem?_getD, List.getElem?_eq_getElem h]
 congr 1
 simp only [Option.toList, Option.getD_some, List.count_cons, List.count_nil]
 by_cases e : a = l[kk]
 ·simp [e]
 have : ¬ l[kk] = a := fun z => e z.symm
 simp [e, this]
theorem int_at {w : World} {A : Option Addr} {n : Nat} {xs : List Int} (h : Kd.C (Kd.int .i64) w A n xs) (i : Nat) (h1 : i < n) : ∃ ad, A = some ad ∧ w.cell? (ad.add i) = some (.int .i64 (xs.getD i 0)) := by
 obtain ⟨ad, e, hc⟩ := Kd.at_int h (i : Int) (by omega) (by omega)
 exact ⟨ad, e, by simpa [rd] using hc⟩
def MapII (w : World) (b n : Nat) (S : Int → Bool) (F : Int → Int) : Prop := MapW Tryd.prog 2 2 (Lit.int .i64) (Lit.int .i64) 0 (fun a => (Lit.int .i64 a).wf = true) w b n S F
theorem MapII_congr {w : World} {b n : Nat} {S : Int → Bool} {F G : Int → Int} (h : MapII w b n S F) (e : ∀ a, F a = G a) : MapII w b n S G := by
 rw [show G = F from funext fun a => (e a).symm]; exact h
theorem R_over_map {w w1 : World} {base b n e : Nat} {ok : Nat → Prop} {v : Value} {xs : List Int} {S : Int → Bool} {F : Int → Int} (h : Kd.R (Kd.int .i64) e w base ok v xs) (hm : MapII w b n S F) (hg : w.grownBy w1 (some b)) : Kd.R (Kd.int .i64) e w1 base ok v xs :=
 Kd.R_grown1 h rfl hg (fun e => by
  obtain ⟨cells, hc⟩ := Kd.R_typed h b e.symm
  exact hm.ne_cells hc rfl)
theorem map_over_R {w w1 : World} {base b n e : Nat} {ok : Nat → Prop} {v : Value} {xs : List Int} {S : Int → Bool} {F : Int → Int} (h : Kd.R (Kd.int .i64) e w base ok v xs) (hm : MapII w b n S F) (hg : w.grownBy w1 v.ownBlock) : MapII w1 b n S F :=
 hm.kept hg (fun e => by
  obtain ⟨cells, hc⟩ := Kd.R_typed h b e.symm
  exact hm.ne_cells hc rfl)
theorem zero_i64 (w : World) : (zeroValue 2).run Tryd.prog w = .ok (.int .i64 0) w := by kernel_rfl
theorem wf_small {x : Int} (h : -9000000000000000000 ≤ x ∧ x ≤ 9000000000000000000) : (Lit.int .i64 x).wf = true := by
 simp only [Lit.wf, IntKind.min, IntKind.max, IntKind.signed, IntKind.bits, Bool.and_eq_true, decide_eq_true_eq, if_true]; omega
theorem litint_inj (a c : Int) (h : Lit.int .i64 a = Lit.int .i64 c) : a = c := by simpa using h
set_option maxHeartbeats 4000000 in
set_option maxRecDepth 100000 in
theorem impl_firstsOf.calls (A0 : Option Addr) (c0 : Nat) (l0 : List Int) (a0 : Int) (r : List Int) (w : World) (hr0 : Kd.C (Kd.int .i64) w A0 l0.length l0) (hc0 : l0.length ≤ c0) (h : impl_firstsOf.f l0 a0 = some r) :
  Calls Tryd.prog 113 #[.slice A0 l0.length c0, .int .i64 a0] w fun e w' => ∃ v0_ : Value, e = .returned (v0_) ∧ Kd.R (Kd.int .i64) 2 w' w.heap.size (fun _ => True) v0_ r ∧ Below w.heap.size w w' := by
 unfold impl_firstsOf.f at h
 split at h
 case isFalse => cases h
 case isTrue hg =>
 obtain rfl := Option.some.inj h
 obtain ⟨⟨hl, hk⟩, hx⟩ := hg
 have law : Go.Maps.Keyed Tryd.prog 2 := Go.Maps.int_keyed Tryd.underlying2
 have hmm := @run_makeMap Tryd.prog
 have HR0 := zA hr0
 have HX := zA hx
 have HK := zA hk
 have HL := zA hl
 have HM0 := zA (MapW.made (P := Tryd.prog) (k := 2) (e := 2) (kf := Lit.int .i64) (ef := Lit.int .i64) (z := 0) (ok := fun a => (Lit.int .i64 a).wf = true) w)
 clear h hc0 hr0 hx
 go_enter Tryd.func113, Tryd.ntmps113
 go_wp2_with (first | ((with_reducible refine kS (N := 13) rfl ?_); refine Kd.R_lit (Kd.int .i64) (w0 := w) w.heap.size 2 ?hg (N := 13) ?hd (xs := ([] : List Int)) (inner := []) (ok := fun _ => True) (okp := fun _ => True) ?hr ?hp (fun _ hk => hk) trivial (zB (kW _ _) _) (by simp) (by simp) ?_; (case hd => rfl); (case hg => rfl); (case hr => first | (go_simp; done) | (go_simp; rfl)); (case hp => exact (Reps.none _ _)); intro v1 w1 ho hb hg_ hnew_; have HO := zA ho; have HB := zA hb; have HM1 := zA (HM0.out.kept hg_ (by simp)); clear ho hb hg_ hnew_))
 clear HM0
 go_loopg [8, 16] l0.length (fun gg _ v16 wr => ∃ kk : Nat, kk ≤ l0.length ∧ l0.length - kk ≤ gg ∧ v16 = .int .i64 kk ∧ Aside0 (∃ n S, n ≤ kk ∧ MapII wr w.heap.size n S (fun a => ((l0.take kk).count a : Nat))) ∧ Aside0 (Kd.R (Kd.int .i64) 2 wr w.heap.size (fun _ => True) v1 []) ∧ Aside0 (Below w.heap.size w wr))
 case atStart => exact ⟨0, Nat.zero_le _, by omega, rfl, ⟨⟨0, _, Nat.le_refl _, by simpa [MapII] using HM1.out⟩⟩, HO, HB⟩
 case round =>
  clear HM1 HO HB
  obtain ⟨kk, hkk, hgg, rfl, HM, HO, HB⟩ := hrel
  by_cases hlt : kk < l0.length
  ·have hltz : (kk : Int) < (l0.length : Int) := by omega
   obtain ⟨ad, rfl, hcell⟩ := int_at HR0.out kk hlt
   replace hcell := pw_cell_below HB.out hcell
   have hxm : l0.getD kk 0 ∈ l0 := by rw [List.getD_eq_getElem?_getD, List.getElem?_eq_getElem hlt]; exact List.getElem_mem hlt
   have hxb := HX.out _ hxm
   have HC := zA (take_count l0 kk hlt)
   have HCL := zA (fun a => Nat.le_trans (List.count_le_length (a := a) (l := l0.take kk)) (List.length_take_le kk l0))
   obtain ⟨n, S, hn, hm⟩ := HM.out
   clear hxm HM
   generalize l0.getD kk 0 = x at hcell hxb HC
   have hwx : (Lit.int .i64 x).wf = true := wf_small (by omega)
   have HMM := zA hm
   have HWX := zA hwx
   clear hm hwx
   obtain ⟨cx, hcx⟩ : ∃ cx : Nat, cx = (l0.take kk).count x := ⟨_, rfl⟩
   have hcl : cx ≤ 24 := by rw [hcx]; have := HCL.out x; have := HL.out; omega
   have HCX := zA hcx
   clear hcx
   have HLT := zA hlt
   clear hlt hxb
   go_wp2_with (first | (at_lookup; refine wpList_mw_int rfl (.tmp 20) (.tmp 21) 129 rfl law Tryd.underlying129 Tryd.underlying2 zero_i64 HMM.out rfl x HWX.out _ rfl (Go.Maps.keyOf_int_mk Tryd.underlying2 HWX.out) ?_; rw [← HCX.out]) | (at_mapUpdate; refine wpList_mw_put rfl (.tmp 20) (.tmp 21) (.tmp 23) 129 rfl law litint_inj (fun _ => trivial) Tryd.underlying129 HMM.out (by unfold maxLen; omega) rfl x HWX.out _ _ rfl rfl (Go.Maps.keyOf_int_mk Tryd.underlying2 HWX.out) _ (plainElem_int Tryd.underlying2 (wf_small (by omega))) ?_; intro w2 hm2 hg2; have HM2 := zA hm2; have HG2 := zA hg2; clear hm2 hg2))
   go_roundg (l0.length - (kk + 1))
   case measure => have := HLT.out; omega
   case rel =>
    refine ⟨kk + 1, by have := HLT.out; omega, by have := HLT.out; omega, by go_num, ?_, ?_, ?_⟩
    ·refine ⟨⟨_, _, ?_, MapII_congr HM2.out fun a => ?_⟩⟩
     ·split <;> omega
     have h1 := HC.out a
     by_cases e : a = x
     ·subst e; rw [if_pos rfl, h1, if_pos rfl, ← HCX.out]; omega
     rw [if_neg e, h1, if_neg e]; rfl
    ·exact ⟨R_over_map HO.out HMM.out HG2.out⟩
    exact ⟨Below.grown HB.out HG2.out HB.out.size (fun j hj => by cases hj; exact Nat.le_refl _)⟩
  have hge : ¬ (kk : Int) < (l0.length : Int) := by omega
  obtain rfl : kk = l0.length := by omega
  obtain ⟨n, S, hn, hm⟩ := HM.out
  rw [List.take_length] at hm
  have HM1 := zA (show ∃ n S, n ≤ 24 ∧ MapII wr w.heap.size n S (fun a => (l0.count a : Nat)) from ⟨n, S, by omega, hm⟩)
  have HM2 := zA (MapW.made (P := Tryd.prog) (k := 2) (e := 2) (kf := Lit.int .i64) (ef := Lit.int .i64) (z := 0) (ok := fun a => (Lit.int .i64 a).wf = true) wr)
  have HBW := zA (HB.out.size)
  have HLW := zA (show w.heap.size < wr.heap.size from hm.lt)
  clear hm HM hn
  go_wp2
  clear hmm
  generalize wr.heap.size = b2 at HM2 HBW HLW ⊢
  go_loopg [6, 11, 28] l0.length (fun gg v6 _ v28 w' => ∃ kk : Nat, kk ≤ l0.length ∧ l0.length - kk ≤ gg ∧ v28 = .int .i64 kk ∧ Aside0 (∃ n S, n ≤ kk ∧ MapII w' b2 n S (fun a => ((l0.take kk).count a : Nat))) ∧ Aside0 (∃ n S, n ≤ 24 ∧ MapII w' w.heap.size n S (fun a => (l0.count a : Nat))) ∧ Aside0 (Kd.R (Kd.int .i64) 2 w' w.heap.size (fun _ => True) v6 (fstI l0 a0 [] (l0.take kk))) ∧ Aside0 (Below w.heap.size w w'))
  case atStart =>
   obtain ⟨n, S, hn, hm⟩ := HM1.out
   exact ⟨0, Nat.zero_le _, by omega, rfl, ⟨⟨0, _, Nat.le_refl _, by simpa [MapII] using HM2.out⟩⟩, ⟨⟨n, S, hn, hm.alloc _⟩⟩, ⟨by simpa [fstI] using zF HO.out _⟩, ⟨zB HB.out _⟩⟩
  case round =>
   clear HM1 HM2 HO HB
   obtain ⟨kk, hkk, hgg, rfl, HM2, HM1, HO, HB⟩ := hrel
   by_cases hlt : kk < l0.length
   ·have hltz : (kk : Int) < (l0.length : Int) := by omega
    obtain ⟨ad, rfl, hcell⟩ := int_at HR0.out kk hlt
    replace hcell := pw_cell_below HB.out hcell
    have hxm : l0.getD kk 0 ∈ l0 := by rw [List.getD_eq_getElem?_getD, List.getElem?_eq_getElem hlt]; exact List.getElem_mem hlt
    have hxb := HX.out _ hxm
    have HC := zA (take_count l0 kk hlt)
    have hts : l0.take (kk + 1) = l0.take kk ++ [l0.getD kk 0] := by rw [List.take_add_one, List.getElem?_eq_getElem hlt, List.getD_eq_getElem?_getD, List.getElem?_eq_getElem hlt]; rfl
    have hsn := fstI_snoc l0 a0 (l0.getD kk 0) (l0.take kk) []
    rw [← hts, List.nil_append] at hsn
    have hfl := fstI_length l0 a0 (l0.take kk) []
    rw [List.length_take] at hfl
    obtain ⟨n, S, hn, hm⟩ := HM2.out
    obtain ⟨n1, S1, hn1, hm1⟩ := HM1.out
    clear hxm HM1 HM2 hts
    generalize l0.getD kk 0 = x at hcell hxb HC hsn
    have HSN := zA hsn
    have hwx : (Lit.int .i64 x).wf = true := wf_small (by omega)
    have HMM := zA hm
    have HMN := zA hm1
    have HWX := zA hwx
    clear hm hwx hsn hm1
    obtain ⟨cx, hcx⟩ : ∃ cx : Nat, cx = (l0.take kk).count x := ⟨_, rfl⟩
    obtain ⟨dx, hdx⟩ : ∃ dx : Nat, dx = l0.count x := ⟨_, rfl⟩
    have hcl : cx ≤ 24 := by rw [hcx]; have := List.count_le_length (a := x) (l := l0.take kk); have h2 := List.length_take_le kk l0; omega
    have hdl : dx ≤ 24 := by rw [hdx]; have := List.count_le_length (a := x) (l := l0); omega
    have HCX := zA hcx
    have HDX := zA hdx
    clear hcx hdx
    obtain ⟨ys, hys⟩ : ∃ ys, ys = fstI l0 a0 [] (l0.take kk) := ⟨_, rfl⟩
    have hyl : ys.length ≤ 24 := by rw [hys]; omega
    have HYS := zA hys
    rw [← hys] at HO
    have HLT := zA hlt
    have hpr : 0 ≤ ((cx : Int) + 1) * a0 ∧ ((cx : Int) + 1) * a0 ≤ 25 * 24 := ⟨Int.mul_nonneg (by omega) (HK.out.1), Int.mul_le_mul (by omega) HK.out.2 HK.out.1 (by omega)⟩
    clear hlt hxb hys hfl
    have ML := Tryd.underlying129
    have step := fun (w2 : World) (hm2 : MapII w2 b2 (if S x = true then n else n + 1) (fun c => if c = x then true else S c) (fun c => if c = x then (cx : Int) + 1 else ((l0.take kk).count c : Nat))) =>
     (MapII_congr hm2 fun a => (by
      have h1 := HC.out a
      by_cases e : a = x
      ·subst e; rw [if_pos rfl, h1, if_pos rfl, ← HCX.out]; omega
      rw [if_neg e, h1, if_neg e]; rfl : (if a = x then (cx : Int) + 1 else ((l0.take kk).count a : Nat)) = (((l0.take (kk + 1)).count a : Nat) : Int)))
    have STEP := zA step
    clear step
    have HC1 := zA (show (((l0.take (kk + 1)).count x : Nat) : Int) = (cx : Int) + 1 by rw [HC.out x, if_pos rfl, ← HCX.out]; omega)
    have tok1 : True := trivial
    have tok2 : True := trivial
    have tok3 : True := trivial
    by_cases hle : ((cx : Int) + 1) * a0 ≤ (dx : Int)
    ·go_wp2_with (first | (at_lookup; have _t := tok1; refine wpList_mw_int rfl (.tmp 32) (.tmp 33) 129 rfl law ML Tryd.underlying2 zero_i64 HMM.out rfl x HWX.out _ rfl (Go.Maps.keyOf_int_mk Tryd.underlying2 HWX.out) ?_; rw [← HCX.out]; clear tok1) | (at_mapUpdate; refine wpList_mw_put rfl (.tmp 32) (.tmp 33) (.tmp 35) 129 rfl law litint_inj (fun _ => trivial) ML HMM.out (by unfold maxLen; omega) rfl x HWX.out _ _ rfl rfl (Go.Maps.keyOf_int_mk Tryd.underlying2 HWX.out) ((cx : Int) + 1) (plainElem_int Tryd.underlying2 (wf_small (by omega))) ?_; intro w2 hm2 hg2; have HMX := zA (STEP.out w2 hm2); have HMY := zA (HMN.out.kept hg2 (by have := HLW.out; simp; omega)); have HO2 := zA (R_over_map HO.out HMM.out hg2); have HB2 := zA (Below.grown HB.out hg2 HB.out.size (fun j hj => by cases hj; exact HBW.out)); clear hm2 hg2) | (at_lookup; have _t := tok2; refine wpList_mw_int rfl (.tmp 36) (.tmp 37) 129 rfl law ML Tryd.underlying2 zero_i64 HMX.out rfl x HWX.out _ rfl (Go.Maps.keyOf_int_mk Tryd.underlying2 HWX.out) ?_; rw [HC1.out]; clear tok2) | (at_lookup; have _t := tok3; refine wpList_mw_int rfl (.tmp 41) (.tmp 42) 129 rfl law ML Tryd.underlying2 zero_i64 HMY.out rfl x HWX.out _ rfl (Go.Maps.keyOf_int_mk Tryd.underlying2 HWX.out) ?_; rw [← HDX.out]; clear tok3) | ((with_reducible refine gate_builtin (b := .append) (xs := #[.tmp 45, .tmp 47]) rfl ?_); at_builtin; refine Kd.R_append (Kd.int .i64) (w0 := w) w.heap.size rfl (.tmp 45) (.tmp 47) 22 2 (.int .i64 0) 8 rfl Tryd.underlying22 info2 rfl (by decide) (by omega) u6 ys x [.int .i64 x] (fun _ => True) (fun _ => False) rfl rfl ?aP (fun _ hk => hk.elim) ?aF ?aO ?aB ?aS ?aL ?_; (case aP => exact rfl); (case aB => exact (zQ HB2.out)); (case aF => exact (fun _ _ => trivial)); (case aO => exact (zP HO2.out)); (case aS => exact (kP (zQ HB2.out))); (case aL => omega); intro v6 w6 ho hb hg hat; have HO6 := zA ho; have HB6 := zA hb; have HMX6 := zA (map_over_R HO2.out HMX.out hg); have HMY6 := zA (map_over_R HO2.out HMY.out hg); clear ho hb hg hat))
     go_roundg (l0.length - (kk + 1))
     case measure => have := HLT.out; omega
     case rel =>
      refine ⟨kk + 1, by have := HLT.out; omega, by have := HLT.out; omega, by go_num, ⟨⟨_, _, ?_, HMX6.out⟩⟩, ⟨⟨n1, S1, hn1, HMY6.out⟩⟩, ⟨?_⟩, HB6⟩
      ·split <;> omega
      rw [HSN.out, ← HYS.out, ← HCX.out, ← HDX.out, if_pos hle]; exact HO6.out
    go_wp2_with (first | (at_lookup; have _t := tok1; refine wpList_mw_int rfl (.tmp 32) (.tmp 33) 129 rfl law ML Tryd.underlying2 zero_i64 HMM.out rfl x HWX.out _ rfl (Go.Maps.keyOf_int_mk Tryd.underlying2 HWX.out) ?_; rw [← HCX.out]; clear tok1) | (at_mapUpdate; refine wpList_mw_put rfl (.tmp 32) (.tmp 33) (.tmp 35) 129 rfl law litint_inj (fun _ => trivial) ML HMM.out (by unfold maxLen; omega) rfl x HWX.out _ _ rfl rfl (Go.Maps.keyOf_int_mk Tryd.underlying2 HWX.out) ((cx : Int) + 1) (plainElem_int Tryd.underlying2 (wf_small (by omega))) ?_; intro w2 hm2 hg2; have HMX := zA (STEP.out w2 hm2); have HMY := zA (HMN.out.kept hg2 (by have := HLW.out; simp; omega)); have HO2 := zA (R_over_map HO.out HMM.out hg2); have HB2 := zA (Below.grown HB.out hg2 HB.out.size (fun j hj => by cases hj; exact HBW.out)); clear hm2 hg2) | (at_lookup; have _t := tok2; refine wpList_mw_int rfl (.tmp 36) (.tmp 37) 129 rfl law ML Tryd.underlying2 zero_i64 HMX.out rfl x HWX.out _ rfl (Go.Maps.keyOf_int_mk Tryd.underlying2 HWX.out) ?_; rw [HC1.out]; clear tok2) | (at_lookup; have _t := tok3; refine wpList_mw_int rfl (.tmp 41) (.tmp 42) 129 rfl law ML Tryd.underlying2 zero_i64 HMY.out rfl x HWX.out _ rfl (Go.Maps.keyOf_int_mk Tryd.underlying2 HWX.out) ?_; rw [← HDX.out]; clear tok3))
    go_roundg (l0.length - (kk + 1))
    case measure => have := HLT.out; omega
    case rel =>
     refine ⟨kk + 1, by have := HLT.out; omega, by have := HLT.out; omega, by go_num, ⟨⟨_, _, ?_, HMX.out⟩⟩, ⟨⟨n1, S1, hn1, HMY.out⟩⟩, ⟨?_⟩, HB2⟩
     ·split <;> omega
     rw [HSN.out, ← HYS.out, ← HCX.out, ← HDX.out, if_neg (by omega), List.append_nil]; exact HO2.out
   have hge : ¬ (kk : Int) < (l0.length : Int) := by omega
   obtain rfl : kk = l0.length := by omega
   go_wp2
   go_ret
   refine ⟨_, rfl, ?_, HB.out⟩
   have := HO.out
   rw [List.take_length] at this
   exact this

/-! ### impl_ties_root: function 72 -/
def impl_ties_root.l0 : Nat → List Int → List Int → Int → Option (List Int × Int)
 | 0, _, _, _ => none
 | k + 1, x0, x1, x6 => if x6 > 1 then ((impl_firstsOf.f x1 x6).bind fun t552 => ((impl_length_int64.f t552).bind fun t555 => ((impl_length_int64.f x1).bind fun t556 => (if (wrap64 (t555 * x6)) = t556 then ((slices_Repeat_int64_int64.f t552 x6).bind fun t557 => ((impl_ties_same.f k x0 t557 x1).bind fun t560 => (if t560 = true then ((impl_ties_normal.f k x0 t552).bind fun t561 => (some (t561, x6))) else (impl_ties_root.l0 k x0 x1 (wrap64 (x6 - 1)))))) else (impl_ties_root.l0 k x0 x1 (wrap64 (x6 - 1))))))) else ((impl_ties_normal.f k x0 x1).bind fun t549 => (some (t549, 1)))
def impl_ties_root.f (k : Nat) (l0 : List Int) (l1 : List Int) : Option (List Int × Int) := (impl_length_int64.f l1).bind fun t548 => (impl_ties_root.l0 k l0 l1 t548)

set_option maxHeartbeats 8000000 in
set_option maxRecDepth 100000 in
theorem impl_ties_root.calls (k : Nat) (A0 : Option Addr) (c0 : Nat) (l0 : List Int) (A1 : Option Addr) (c1 : Nat) (l1 : List Int) (r1 : List Int) (r2 : Int) (w : World) (hr0 : Kd.C (Kd.int .i64) w A0 l0.length l0) (hc0 : l0.length ≤ c0) (hr1 : Kd.C (Kd.int .i64) w A1 l1.length l1) (hc1 : l1.length ≤ c1) (hT : TabW w) (h : impl_ties_root.f k l0 l1 = some (r1, r2)) :
  Calls Tryd.prog 72 #[.slice A0 l0.length c0, .slice A1 l1.length c1] w fun e w' => ∃ v0_ : Value, e = .returned (.tuple #[v0_, .int .i64 r2]) ∧ Kd.R (Kd.int .i64) 2 w' w.heap.size (fun _ => True) v0_ r1 ∧ Below w.heap.size w w' := by
 have HT := zA hT
 clear hT
 have HR0 := zA hr0
 have HC0 := zA hc0
 clear hr0 hc0
 have HR1 := zA hr1
 have HC1 := zA hc1
 clear hr1 hc1
 have HB := zA (kW w.heap.size w)
 have H := h
 unfold impl_ties_root.f at H
 clear h
 obtain ⟨t548, A3, H⟩ := zb H
 try dsimp only at H
 have H' := zA H
 clear H
 go_enter Tryd.func72, Tryd.ntmps72
 go_wp2_with (first | (refine zO (some 9) Tryd.func68 #[.slice A1 l1.length c1] ?_; (with_reducible refine (impl_length_int64.calls _ _ l1 t548 _ ?side1 ?side2 A3.out).mono ?_); (case side1 => exact zS HR1.out); (case side2 => exact HC1.out); rintro e w' ⟨rfl, ⟨nd, rfl⟩⟩; refine ⟨_, rfl, ?_⟩))
 go_loopg [6] k (fun kq v6 w' => ∃ (x6_1 : Int), v6 = .int .i64 x6_1 ∧ Aside0 (impl_ties_root.l0 kq l0 l1 x6_1 = some (r1, r2)) ∧ Aside0 (kq ≤ k) ∧ Aside0 (Below w.heap.size w w'))
 case atStart => exact ⟨(t548), zs, H', ⟨Nat.le_refl _⟩, ⟨zQ HB.out⟩⟩
 case round =>
  clear H'
  try clear c1
  obtain ⟨x6_1, rfl, HA, HK1, HB⟩ := hrel
  cases gk with
  | zero => exact absurd HA.out (by simp [impl_ties_root.l0])
  | succ k1 =>
   have H := HA.out
   clear HA
   simp only [impl_ties_root.l0] at H
   by_cases c4 : x6_1 > 1
   ·rw [if_pos c4] at H
    have c4b0 : decide (1 < x6_1) = true := decide_eq_true c4
    clear c4
    obtain ⟨t552, A5, H⟩ := zb H
    try dsimp only at H
    obtain ⟨t555, A6, H⟩ := zb H
    try dsimp only at H
    obtain ⟨t556, A7, H⟩ := zb H
    try dsimp only at H
    by_cases c8 : (wrap64 (t555 * x6_1)) = t556
    ·rw [if_pos c8] at H
     obtain ⟨c8b0, c8b1⟩ := zT1 c8
     clear c8
     obtain ⟨t557, A9, H⟩ := zb H
     try dsimp only at H
     obtain ⟨t560, A10, H⟩ := zb H
     try dsimp only at H
     by_cases c11 : t560 = true
     ·subst c11
      rw [if_pos rfl] at H
      obtain ⟨t561, A12, H⟩ := zb H
      try dsimp only at H
      simp only [Option.some.injEq, Prod.mk.injEq] at H
      obtain ⟨rfl, rfl⟩ := H
      go_wp2_with (first | (refine zO (some 16) Tryd.func113 #[.slice A1 l1.length c1, .int .i64 x6_1] ?_; (with_reducible refine (impl_firstsOf.calls _ _ l1 x6_1 t552 _ ?side1 ?side2 A5.out).mono ?_); (case side1 => exact zS (kO HR1.out HB.out)); (case side2 => exact HC1.out); rintro e w13 ⟨v553, rfl, ho0, hb⟩; refine ⟨_, rfl, ?_⟩; have HO554 := zA (kI ho0 (kP (zQ HB.out))); replace HB := zA (kQ (zQ HB.out) hb); (try clear hb); (try clear ho0); obtain ⟨Ao14, co14, eo14⟩ := kM HO554.out; subst eo14) | (refine zO (some 18) Tryd.func68 #[.slice Ao14 t552.length co14] ?_; (with_reducible refine (impl_length_int64.calls _ _ t552 t555 _ ?side1 ?side2 A6.out).mono ?_); (case side1 => exact zS (kB HO554.out).2.2); (case side2 => exact (kB HO554.out).2.1); rintro e w' ⟨rfl, ⟨nd, rfl⟩⟩; refine ⟨_, rfl, ?_⟩) | (refine zO (some 22) Tryd.func68 #[.slice A1 l1.length c1] ?_; (with_reducible refine (impl_length_int64.calls _ _ l1 t556 _ ?side1 ?side2 A7.out).mono ?_); (case side1 => exact zS (kO HR1.out (zQ HB.out))); (case side2 => exact HC1.out); rintro e w' ⟨rfl, ⟨nd, rfl⟩⟩; refine ⟨_, rfl, ?_⟩) | (go_at_call 61; (with_reducible refine (slices_Repeat_int64_int64.calls _ _ t552 x6_1 t557 _ ?side1 ?side2 A9.out).mono ?_); (case side1 => exact zS (kB HO554.out).2.2); (case side2 => exact (kB HO554.out).2.1); rintro e w15 ⟨v558, rfl, ho0, hb⟩; have HO559 := zA (kI (kF ho0 (kH (zP HO554.out))) (kP (zQ HB.out))); replace HO554 := zA (kE (zP HO554.out) (kC ho0) hb); replace HB := zA (kQ (zQ HB.out) hb); (try clear hb); (try clear hb2); (try clear hk); (try clear hi); (try clear hgw); (try clear ho0); obtain ⟨Ao16, co16, eo16⟩ := kM HO559.out; subst eo16) | (go_at_call 76; (with_reducible refine (impl_ties_same.calls k1 _ _ l0 _ _ t557 _ _ l1 true _ ?side1 ?side2 ?side3 ?side4 ?side5 ?side6 ?side7 A10.out).mono ?_); (case side1 => exact zS (kO HR0.out HB.out)); (case side2 => exact HC0.out); (case side3 => exact zS (kB HO559.out).2.2); (case side4 => exact (kB HO559.out).2.1); (case side5 => exact zS (kO HR1.out HB.out)); (case side6 => exact HC1.out); (case side7 => exact TabW.below HT.out (zQ HB.out)); rintro e w17 ⟨rfl, hb⟩; replace HO554 := zA (kL (zP HO554.out) hb); replace HO559 := zA (kL (zP HO559.out) hb); replace HB := zA (kQ (zQ HB.out) hb); (try clear hb); (try clear hb2); (try clear hk); (try clear hi); (try clear hgw)) | (refine zO (some 34) Tryd.func80 #[.slice A0 l0.length c0, .slice Ao14 t552.length co14] ?_; (with_reducible refine (impl_ties_normal.calls k1 _ _ l0 (fun k_ => some k_ = (.slice Ao14 t552.length co14 : Value).ownBlock) _ _ t552 t561 _ ?side1 ?side2 ?side3 ?side4 A12.out).mono ?_); (case side1 => exact zS (kO HR0.out HB.out)); (case side2 => exact HC0.out); (case side3 => exact jL (jK rfl (HO554.out))); (case side4 => exact TabW.below HT.out (zQ HB.out)); rintro e w18 ⟨v562, rfl, ho0, hb⟩; refine ⟨_, rfl, ?_⟩; have HO563 := zA (kI (kF (kF (kA (ok' := fun k_ => True) ho0 (fun _ hk_ => trivial)) (kH (zP HO554.out))) (kH (zP HO559.out))) (kP (zQ HB.out))); replace HO554 := zA (kE (zP HO554.out) (kC ho0) hb); replace HO559 := zA (kE (zP HO559.out) (kC ho0) hb); replace HB := zA (kQ (zQ HB.out) hb); (try clear hb); (try clear hb2); (try clear hk); (try clear hi); (try clear hgw); (try clear ho0)))
      go_ret2
      exact ⟨_, zr, by (with_reducible repeat (first | apply zF | apply zG | apply zH)); exact kA HO563.out (fun _ hk => trivial), zQ HB.out⟩
     replace c11 := Bool.eq_false_iff.mpr c11
     subst c11
     rw [if_neg (show ¬ (false = true) by decide)] at H
     have H' := zA H
     clear H
     go_wp2_with (first | (refine zO (some 16) Tryd.func113 #[.slice A1 l1.length c1, .int .i64 x6_1] ?_; (with_reducible refine (impl_firstsOf.calls _ _ l1 x6_1 t552 _ ?side1 ?side2 A5.out).mono ?_); (case side1 => exact zS (kO HR1.out HB.out)); (case side2 => exact HC1.out); rintro e w19 ⟨v553, rfl, ho0, hb⟩; refine ⟨_, rfl, ?_⟩; have HO554 := zA (kI ho0 (kP (zQ HB.out))); replace HB := zA (kQ (zQ HB.out) hb); (try clear hb); (try clear ho0); obtain ⟨Ao20, co20, eo20⟩ := kM HO554.out; subst eo20) | (refine zO (some 18) Tryd.func68 #[.slice Ao20 t552.length co20] ?_; (with_reducible refine (impl_length_int64.calls _ _ t552 t555 _ ?side1 ?side2 A6.out).mono ?_); (case side1 => exact zS (kB HO554.out).2.2); (case side2 => exact (kB HO554.out).2.1); rintro e w' ⟨rfl, ⟨nd, rfl⟩⟩; refine ⟨_, rfl, ?_⟩) | (refine zO (some 22) Tryd.func68 #[.slice A1 l1.length c1] ?_; (with_reducible refine (impl_length_int64.calls _ _ l1 t556 _ ?side1 ?side2 A7.out).mono ?_); (case side1 => exact zS (kO HR1.out (zQ HB.out))); (case side2 => exact HC1.out); rintro e w' ⟨rfl, ⟨nd, rfl⟩⟩; refine ⟨_, rfl, ?_⟩) | (go_at_call 61; (with_reducible refine (slices_Repeat_int64_int64.calls _ _ t552 x6_1 t557 _ ?side1 ?side2 A9.out).mono ?_); (case side1 => exact zS (kB HO554.out).2.2); (case side2 => exact (kB HO554.out).2.1); rintro e w21 ⟨v558, rfl, ho0, hb⟩; have HO559 := zA (kI (kF ho0 (kH (zP HO554.out))) (kP (zQ HB.out))); replace HO554 := zA (kE (zP HO554.out) (kC ho0) hb); replace HB := zA (kQ (zQ HB.out) hb); (try clear hb); (try clear ho0); obtain ⟨Ao22, co22, eo22⟩ := kM HO559.out; subst eo22) | (go_at_call 76; (with_reducible refine (impl_ties_same.calls k1 _ _ l0 _ _ t557 _ _ l1 false _ ?side1 ?side2 ?side3 ?side4 ?side5 ?side6 ?side7 A10.out).mono ?_); (case side1 => exact zS (kO HR0.out HB.out)); (case side2 => exact HC0.out); (case side3 => exact zS (kB HO559.out).2.2); (case side4 => exact (kB HO559.out).2.1); (case side5 => exact zS (kO HR1.out HB.out)); (case side6 => exact HC1.out); (case side7 => exact TabW.below HT.out (zQ HB.out)); rintro e w23 ⟨rfl, hb⟩; replace HO554 := zA (kL (zP HO554.out) hb); replace HO559 := zA (kL (zP HO559.out) hb); replace HB := zA (kQ (zQ HB.out) hb); (try clear hb)))
     go_roundg k1
     case measure => have := HK1.out; omega
     case rel => exact ⟨(wrap64 (x6_1 - 1)), zs, H', ⟨by have := HK1.out; omega⟩, ⟨zQ HB.out⟩⟩
    rw [if_neg c8] at H
    obtain ⟨c8b0, c8b1⟩ := zT2 c8
    have H' := zA H
    clear H
    go_wp2_with (first | (refine zO (some 16) Tryd.func113 #[.slice A1 l1.length c1, .int .i64 x6_1] ?_; (with_reducible refine (impl_firstsOf.calls _ _ l1 x6_1 t552 _ ?side1 ?side2 A5.out).mono ?_); (case side1 => exact zS (kO HR1.out HB.out)); (case side2 => exact HC1.out); rintro e w24 ⟨v553, rfl, ho0, hb⟩; refine ⟨_, rfl, ?_⟩; have HO554 := zA (kI ho0 (kP (zQ HB.out))); replace HB := zA (kQ (zQ HB.out) hb); (try clear hb); (try clear ho0); obtain ⟨Ao25, co25, eo25⟩ := kM HO554.out; subst eo25) | (refine zO (some 18) Tryd.func68 #[.slice Ao25 t552.length co25] ?_; (with_reducible refine (impl_length_int64.calls _ _ t552 t555 _ ?side1 ?side2 A6.out).mono ?_); (case side1 => exact zS (kB HO554.out).2.2); (case side2 => exact (kB HO554.out).2.1); rintro e w' ⟨rfl, ⟨nd, rfl⟩⟩; refine ⟨_, rfl, ?_⟩) | (refine zO (some 22) Tryd.func68 #[.slice A1 l1.length c1] ?_; (with_reducible refine (impl_length_int64.calls _ _ l1 t556 _ ?side1 ?side2 A7.out).mono ?_); (case side1 => exact zS (kO HR1.out (zQ HB.out))); (case side2 => exact HC1.out); rintro e w' ⟨rfl, ⟨nd, rfl⟩⟩; refine ⟨_, rfl, ?_⟩))
    go_roundg k1
    case measure => have := HK1.out; omega
    case rel => exact ⟨(wrap64 (x6_1 - 1)), zs, H', ⟨by have := HK1.out; omega⟩, ⟨zQ HB.out⟩⟩
   rw [if_neg c4] at H
   have c4b0 : decide (1 < x6_1) = false := decide_eq_false c4
   clear c4
   obtain ⟨t549, A26, H⟩ := zb H
   try dsimp only at H
   simp only [Option.some.injEq, Prod.mk.injEq] at H
   obtain ⟨rfl, rfl⟩ := H
   go_wp2_with (first | (refine zO (some 38) Tryd.func80 #[.slice A0 l0.length c0, .slice A1 l1.length c1] ?_; (with_reducible refine (impl_ties_normal.calls k1 _ _ l0 (fun k_ => k_ < w.heap.size) _ _ l1 t549 _ ?side1 ?side2 ?side3 ?side4 A26.out).mono ?_); (case side1 => exact zS (kO HR0.out HB.out)); (case side2 => exact HC0.out); (case side3 => exact Kd.V_mk HC1.out (Kd.F_below (Kd.C_F (Kd.heap_int .i64) HR1.out) (zQ HB.out))); (case side4 => exact TabW.below HT.out (zQ HB.out)); rintro e w27 ⟨v550, rfl, ho0, hb⟩; refine ⟨_, rfl, ?_⟩; have HO551 := zA (kI (kA (ok' := fun k_ => True) ho0 (fun _ hk_ => trivial)) (kP (zQ HB.out))); replace HB := zA (kQ (zQ HB.out) hb); (try clear hb); (try clear ho0)))
   go_ret2
   exact ⟨_, zr, zP HO551.out, zQ HB.out⟩

end Go.Proofs.YtfnnnopbcdiibaaDoor.PAll
