-- Printed by a program of the session (wip/tools/pgen.py) out of the translation. Not trusted: Lean checks it.
import Derived.Test.YtemdfjdmokbcoaaDoorPAllx0
import Derived.Test.YtemdfjdmokbcoaaDoorPAllx1
namespace Go.Proofs.YtemdfjdmokbcoaaDoor.PAll
open Go.RowKit Go.Proofs.YtemdfjdmokbcoaaDoor.T Go.Proofs.YtemdfjdmokbcoaaDoorW.PrintWords Go.Proofs.YtemdfjdmokbcoaaDoorW.PrintLast Go.Proofs.YtemdfjdmokbcoaaDoorW.PrintMore
attribute [local go_sem] max2_int min2_int max_two min_two max_three min_three max_four min_four   -- for this text's walks alone
set_option linter.unusedVariables false
set_option linter.unusedSimpArgs false

/-! ### spec_l02Step: function 56 -/
def spec_l02Step.l0 : Nat → Int → Int → Int → List Int → Option (Bool)
 | 0, _, _, _, _ => none
 | k + 1, x1, x5, x174000, x174001 => if x5 < x174000 then ((spec_l01Bit.f x1 x5).bind fun t174 => (if t174 = true then (if 0 ≤ x5 then (if x5 < (x174001.length : Int) then ((spec_l01One.f x5).bind fun t176 => (if (Go.bits .and .i64 (rd x174001 x5) x1) = t176 then (spec_l02Step.l0 k x1 (wrap64 (x5 + 1)) x174000 x174001) else (some false))) else (none)) else (none)) else (spec_l02Step.l0 k x1 (wrap64 (x5 + 1)) x174000 x174001))) else (some true)
def spec_l02Step.f (k : Nat) (a0_0 : Int) (l0_1 : List Int) (a1 : Int) : Option (Bool) := spec_l02Step.l0 k a1 0 a0_0 l0_1

set_option maxHeartbeats 8000000 in
set_option maxRecDepth 100000 in
theorem spec_l02Step.calls (k : Nat) (a0_0 : Int) (A0_1 : Option Addr) (c0_1 : Nat) (l0_1 : List Int) (a1 : Int) (r : Bool) (w : World) (hr0_1 : Kd.C (Kd.int .i64) w A0_1 l0_1.length l0_1) (hc0_1 : l0_1.length ≤ c0_1) (h : spec_l02Step.f k a0_0 l0_1 a1 = some r) :
  Calls Tryd.prog 56 #[.agg #[.int .i64 a0_0, .slice A0_1 l0_1.length c0_1], .int .i64 a1] w fun e w' => e = .returned (.bool r) ∧ Below w.heap.size w w' := by
 have hu29 := Tryd.underlying29
 have HR0_1 := zA hr0_1
 have HC0_1 := zA hc0_1
 clear hr0_1 hc0_1
 have HB := zA (kW w.heap.size w)
 have H := h
 unfold spec_l02Step.f at H
 clear h
 have H' := zA H
 clear H
 go_enter Tryd.func56, Tryd.ntmps56
 go_wp2_with (first | (refine zBE 2 #[.int .i64 a0_0, .slice A0_1 l0_1.length c0_1] 29 ?_; intro gb173 hg w3 hbox hb; have BK173 := zA (hbox); have GW173 := zA (zBH hg HB.out); have GE173 := zA (zBH hg HB.out); replace HB := zA (kQ (zQ HB.out) hb); clear hb hbox hg))
 repeat (go_quiet (first | (refine zBE 2 #[.int .i64 a0_0, .slice A0_1 l0_1.length c0_1] 29 ?_; intro gb173 hg w3 hbox hb; have n0_ := zA (kQ (zQ HB.out) hb); have n1_ := zA (hbox); have n2_ := zA (zBH hg HB.out); have n3_ := zA (zBH hg HB.out); clear HB; have HB := n0_; have BK173 := n1_; have GW173 := n2_; have GE173 := n3_; clear n0_ n1_ n2_ n3_; clear hb hbox hg)); try go_wp2_with (first | (refine zBE 2 #[.int .i64 a0_0, .slice A0_1 l0_1.length c0_1] 29 ?_; intro gb173 hg w3 hbox hb; have BK173 := zA (hbox); have GW173 := zA (zBH hg HB.out); have GE173 := zA (zBH hg HB.out); replace HB := zA (kQ (zQ HB.out) hb); clear hb hbox hg)))
 go_loopg [5] k (fun kq v5 w' => ∃ (x5_1 : Int), v5 = .int .i64 x5_1 ∧ Aside0 (spec_l02Step.l0 kq a1 x5_1 a0_0 l0_1 = some r) ∧ Aside0 (kq ≤ k) ∧ Aside0 (w'.heap[gb173]? = some (.cells #[.int .i64 a0_0, (.slice A0_1 l0_1.length c0_1)] 29 (0, 0))) ∧ Aside0 (Below w.heap.size w w'))
 case atStart => exact ⟨(0), zs, H', ⟨Nat.le_refl _⟩, ⟨zR BK173.out⟩, ⟨zT HB.out GE173.out⟩⟩
 case round =>
  clear H'
  obtain ⟨x5_1, rfl, HA, HK1, BK173, HB⟩ := hrel
  cases gk with
  | zero => exact absurd HA.out (by simp [spec_l02Step.l0])
  | succ k1 =>
   have H := HA.out
   clear HA
   simp only [spec_l02Step.l0] at H
   by_cases c4 : x5_1 < a0_0
   ·rw [if_pos c4] at H
    have c4b0 : decide (x5_1 < a0_0) = true := decide_eq_true c4
    clear c4
    obtain ⟨t174, A5, H⟩ := zb H
    try dsimp only at H
    by_cases c6 : t174 = true
    ·subst c6
     rw [if_pos rfl] at H
     by_cases c7 : 0 ≤ x5_1
     ·rw [if_pos c7] at H
      have c7b0 : decide (0 ≤ x5_1) = true := decide_eq_true c7
      clear c7
      by_cases c8 : x5_1 < (l0_1.length : Int)
      ·rw [if_pos c8] at H
       have c8b0 : decide (x5_1 < (l0_1.length : Int)) = true := decide_eq_true c8
       clear c8
       obtain ⟨t176, A9, H⟩ := zb H
       try dsimp only at H
       by_cases c10 : (Go.bits .and .i64 (rd l0_1 x5_1) a1) = t176
       ·rw [if_pos c10] at H
        obtain ⟨c10b0, c10b1⟩ := zT1 c10
        clear c10
        have H' := zA H
        clear H
        obtain ⟨hcz11_0, hcz11_1, hfz11_0, hfz11_1⟩ := zB3 BK173.out
        go_wp2_with (first | (go_at_call 47; (with_reducible refine (spec_l01Bit.calls a1 x5_1 true _ A5.out).mono ?_); rintro e w' ⟨rfl, ⟨nd, rfl⟩⟩; (try exact zw); have p175 : 0 ≤ (x5_1 : Int) := zd; have q175 : x5_1 < (l0_1.length : Int) := zd; obtain ⟨ad175, e175, hx175_0⟩ := Kd.at_int HR0_1.out x5_1 p175 q175; cases e175; replace hx175_0 := (HB.out.cell (jG w _ hx175_0)).trans hx175_0; replace p175 := eq_true p175; replace q175 := eq_true q175) | (go_at_call 55; (with_reducible refine (spec_l01One.calls x5_1 t176 _ A9.out).mono ?_); rintro e w' ⟨rfl, ⟨nd, rfl⟩⟩; (try exact zw)))
        repeat (go_quiet (first | (go_at_call 47; (with_reducible refine (spec_l01Bit.calls a1 x5_1 true _ A5.out).mono ?_); rintro e w' ⟨rfl, ⟨nd, rfl⟩⟩; (try exact zw); have p175 : 0 ≤ (x5_1 : Int) := zd; have q175 : x5_1 < (l0_1.length : Int) := zd; obtain ⟨ad175, e175, hx175_0⟩ := Kd.at_int HR0_1.out x5_1 p175 q175; cases e175; replace hx175_0 := (HB.out.cell (jG w _ hx175_0)).trans hx175_0; replace p175 := eq_true p175; replace q175 := eq_true q175) | (go_at_call 55; (with_reducible refine (spec_l01One.calls x5_1 t176 _ A9.out).mono ?_); rintro e w' ⟨rfl, ⟨nd, rfl⟩⟩; (try exact zw))); try go_wp2_with (first | (go_at_call 47; (with_reducible refine (spec_l01Bit.calls a1 x5_1 true _ A5.out).mono ?_); rintro e w' ⟨rfl, ⟨nd, rfl⟩⟩; (try exact zw); have p175 : 0 ≤ (x5_1 : Int) := zd; have q175 : x5_1 < (l0_1.length : Int) := zd; obtain ⟨ad175, e175, hx175_0⟩ := Kd.at_int HR0_1.out x5_1 p175 q175; cases e175; replace hx175_0 := (HB.out.cell (jG w _ hx175_0)).trans hx175_0; replace p175 := eq_true p175; replace q175 := eq_true q175) | (go_at_call 55; (with_reducible refine (spec_l01One.calls x5_1 t176 _ A9.out).mono ?_); rintro e w' ⟨rfl, ⟨nd, rfl⟩⟩; (try exact zw))))
        go_roundg k1
        case measure => have := HK1.out; omega
        case rel => exact ⟨(wrap64 (x5_1 + 1)), zs, H', ⟨by have := HK1.out; omega⟩, ⟨zR BK173.out⟩, ⟨zT HB.out GE173.out⟩⟩
       rw [if_neg c10] at H
       obtain ⟨c10b0, c10b1⟩ := zT2 c10
       obtain rfl := Option.some.inj H
       obtain ⟨hcz12_0, hcz12_1, hfz12_0, hfz12_1⟩ := zB3 BK173.out
       go_wp2_with (first | (go_at_call 47; (with_reducible refine (spec_l01Bit.calls a1 x5_1 true _ A5.out).mono ?_); rintro e w' ⟨rfl, ⟨nd, rfl⟩⟩; (try exact zw); have p175 : 0 ≤ (x5_1 : Int) := zd; have q175 : x5_1 < (l0_1.length : Int) := zd; obtain ⟨ad175, e175, hx175_0⟩ := Kd.at_int HR0_1.out x5_1 p175 q175; cases e175; replace hx175_0 := (HB.out.cell (jG w _ hx175_0)).trans hx175_0; replace p175 := eq_true p175; replace q175 := eq_true q175) | (go_at_call 55; (with_reducible refine (spec_l01One.calls x5_1 t176 _ A9.out).mono ?_); rintro e w' ⟨rfl, ⟨nd, rfl⟩⟩; (try exact zw)))
       repeat (go_quiet (first | (go_at_call 47; (with_reducible refine (spec_l01Bit.calls a1 x5_1 true _ A5.out).mono ?_); rintro e w' ⟨rfl, ⟨nd, rfl⟩⟩; (try exact zw); have p175 : 0 ≤ (x5_1 : Int) := zd; have q175 : x5_1 < (l0_1.length : Int) := zd; obtain ⟨ad175, e175, hx175_0⟩ := Kd.at_int HR0_1.out x5_1 p175 q175; cases e175; replace hx175_0 := (HB.out.cell (jG w _ hx175_0)).trans hx175_0; replace p175 := eq_true p175; replace q175 := eq_true q175) | (go_at_call 55; (with_reducible refine (spec_l01One.calls x5_1 t176 _ A9.out).mono ?_); rintro e w' ⟨rfl, ⟨nd, rfl⟩⟩; (try exact zw))); try go_wp2_with (first | (go_at_call 47; (with_reducible refine (spec_l01Bit.calls a1 x5_1 true _ A5.out).mono ?_); rintro e w' ⟨rfl, ⟨nd, rfl⟩⟩; (try exact zw); have p175 : 0 ≤ (x5_1 : Int) := zd; have q175 : x5_1 < (l0_1.length : Int) := zd; obtain ⟨ad175, e175, hx175_0⟩ := Kd.at_int HR0_1.out x5_1 p175 q175; cases e175; replace hx175_0 := (HB.out.cell (jG w _ hx175_0)).trans hx175_0; replace p175 := eq_true p175; replace q175 := eq_true q175) | (go_at_call 55; (with_reducible refine (spec_l01One.calls x5_1 t176 _ A9.out).mono ?_); rintro e w' ⟨rfl, ⟨nd, rfl⟩⟩; (try exact zw))))
       go_ret
       exact ⟨zr, zT HB.out GE173.out⟩
      rw [if_neg c8] at H
      exact absurd H (by simp)
     rw [if_neg c7] at H
     exact absurd H (by simp)
    replace c6 := Bool.eq_false_iff.mpr c6
    subst c6
    rw [if_neg (show ¬ (false = true) by decide)] at H
    have H' := zA H
    clear H
    obtain ⟨hcz13_0, hcz13_1, hfz13_0, hfz13_1⟩ := zB3 BK173.out
    go_wp2_with (first | (go_at_call 47; (with_reducible refine (spec_l01Bit.calls a1 x5_1 false _ A5.out).mono ?_); rintro e w' ⟨rfl, ⟨nd, rfl⟩⟩; (try exact zw)))
    repeat (go_quiet (first | (go_at_call 47; (with_reducible refine (spec_l01Bit.calls a1 x5_1 false _ A5.out).mono ?_); rintro e w' ⟨rfl, ⟨nd, rfl⟩⟩; (try exact zw))); try go_wp2_with (first | (go_at_call 47; (with_reducible refine (spec_l01Bit.calls a1 x5_1 false _ A5.out).mono ?_); rintro e w' ⟨rfl, ⟨nd, rfl⟩⟩; (try exact zw))))
    go_roundg k1
    case measure => have := HK1.out; omega
    case rel => exact ⟨(wrap64 (x5_1 + 1)), zs, H', ⟨by have := HK1.out; omega⟩, ⟨zR BK173.out⟩, ⟨zT HB.out GE173.out⟩⟩
   rw [if_neg c4] at H
   have c4b0 : decide (x5_1 < a0_0) = false := decide_eq_false c4
   clear c4
   obtain rfl := Option.some.inj H
   obtain ⟨hcz14_0, hcz14_1, hfz14_0, hfz14_1⟩ := zB3 BK173.out
   go_wp2
   repeat (go_quiet (fail); try go_wp2)
   go_ret
   exact ⟨zr, zT HB.out GE173.out⟩

/-! ### spec_l02Steps: function 36 -/
def spec_l02Steps.l0 : Nat → List Int → Int → Int → List Int → Option (List Int)
 | 0, _, _, _, _ => none
 | k + 1, x3, x4, x178000, x178001 => (spec_l01Full.f x178000).bind fun t181 => (if x4 ≤ t181 then ((spec_l02Step.f k x178000 x178001 x4).bind fun t182 => (if t182 = true then (if x3.length < 17592186044416 then (spec_l02Steps.l0 k (x3 ++ [x4]) (wrap64 (x4 + 1)) x178000 x178001) else (none)) else (spec_l02Steps.l0 k x3 (wrap64 (x4 + 1)) x178000 x178001))) else (some x3))
def spec_l02Steps.f (k : Nat) (a0_0 : Int) (l0_1 : List Int) : Option (List Int) := spec_l02Steps.l0 k (([] : List Int)) 0 a0_0 l0_1

set_option maxHeartbeats 8000000 in
set_option maxRecDepth 100000 in
theorem spec_l02Steps.calls (k : Nat) (a0_0 : Int) (A0_1 : Option Addr) (c0_1 : Nat) (l0_1 : List Int) (r : List Int) (w : World) (hr0_1 : Kd.C (Kd.int .i64) w A0_1 l0_1.length l0_1) (hc0_1 : l0_1.length ≤ c0_1) (h : spec_l02Steps.f k a0_0 l0_1 = some r) :
  Calls Tryd.prog 36 #[.agg #[.int .i64 a0_0, .slice A0_1 l0_1.length c0_1]] w fun e w' => ∃ v0_ : Value, e = .returned (v0_) ∧ Kd.R (Kd.int .i64) 2 w' w.heap.size (fun _ => True) v0_ r ∧ Below w.heap.size w w' := by
 have hu29 := Tryd.underlying29
 have HR0_1 := zA hr0_1
 have HC0_1 := zA hc0_1
 clear hr0_1 hc0_1
 have HB := zA (kW w.heap.size w)
 have H := h
 unfold spec_l02Steps.f at H
 clear h
 obtain ⟨y178, hy178⟩ : ∃ y_ : List Int, y_ = (([] : List Int)) := ⟨_, rfl⟩
 replace H : (spec_l02Steps.l0 k y178 0 a0_0 l0_1) = some r := zy hy178 H
 have Ny178 := zA hy178
 clear hy178
 have H' := zA H
 clear H
 go_enter Tryd.func36, Tryd.ntmps36
 go_wp2_with (first | (refine zBE 1 #[.int .i64 a0_0, .slice A0_1 l0_1.length c0_1] 29 ?_; intro gb177 hg w2 hbox hb; have BK177 := zA (hbox); have GW177 := zA (zBH hg HB.out); have GE177 := zA (zBH hg HB.out); replace HB := zA (kQ (zQ HB.out) hb); clear hb hbox hg) | ((with_reducible refine kS (N := 5) rfl ?_); refine Kd.R_lit (Kd.int .i64) _ 2 ?hg (N := 5) ?hd (xs := ([] : List Int)) (inner := []) (ok := fun _ => True) (okp := fun _ => True) ?hr ?hp (fun _ hk => hk) trivial (kW _ _) (Nat.le_refl _) (by simp) ?_; (case hd => rfl); (case hg => rfl); (case hr => first | (go_simp; done) | (go_simp; rfl)); (case hp => exact (Reps.none _ _)); intro v179 w3 ho4 hb hg_ hnew_; clear hg_ hnew_; (first | rw [← Ny178.out] at ho4 | (simp only [Int.reduceToNat] at ho4; rw [← Ny178.out] at ho4)); have HO180 := zA (kI ho4 (kP (zT HB.out GE177.out))); replace BK177 := zA (zB1 BK177.out hb); replace HB := zA (kQ (zT HB.out GE177.out) hb); clear hb ho4))
 go_loopg [3, 4] k (fun kq v3 v4 w' => ∃ (x3_1 : List Int) (x4_1 : Int), v4 = .int .i64 x4_1 ∧ Aside0 (spec_l02Steps.l0 kq x3_1 x4_1 a0_0 l0_1 = some r) ∧ Aside0 (kq ≤ k) ∧ Aside0 (Kd.R (Kd.int .i64) 2 w' w.heap.size (fun _ => True) v3 x3_1) ∧ Aside0 (w'.heap[gb177]? = some (.cells #[.int .i64 a0_0, (.slice A0_1 l0_1.length c0_1)] 29 (0, 0))) ∧ Aside0 (Below w.heap.size w w'))
 case atStart => exact ⟨(y178), (0), zs, H', ⟨Nat.le_refl _⟩, ⟨zP HO180.out⟩, ⟨zR BK177.out⟩, ⟨zT HB.out GE177.out⟩⟩
 case round =>
  clear H'
  try clear c3
  obtain ⟨x3_1, x4_1, rfl, HA, HK1, HO_3, BK177, HB⟩ := hrel
  cases gk with
  | zero => exact absurd HA.out (by simp [spec_l02Steps.l0])
  | succ k1 =>
   have H := HA.out
   clear HA
   simp only [spec_l02Steps.l0] at H
   obtain ⟨t181, A5, H⟩ := zb H
   try dsimp only at H
   by_cases c6 : x4_1 ≤ t181
   ·rw [if_pos c6] at H
    have c6b0 : decide (x4_1 ≤ t181) = true := decide_eq_true c6
    clear c6
    obtain ⟨t182, A7, H⟩ := zb H
    try dsimp only at H
    by_cases c8 : t182 = true
    ·subst c8
     rw [if_pos rfl] at H
     by_cases c9 : x3_1.length < 17592186044416
     ·rw [if_pos c9] at H
      have LMc9 := zA c9
      clear c9
      obtain ⟨y183, hy183⟩ : ∃ y_ : List Int, y_ = (x3_1 ++ [x4_1]) := ⟨_, rfl⟩
      replace H : (spec_l02Steps.l0 k1 y183 (wrap64 (x4_1 + 1)) a0_0 l0_1) = some r := zy hy183 H
      have Ny183 := zA hy183
      clear hy183
      have H' := zA H
      clear H
      obtain ⟨hcz10_0, hcz10_1, hfz10_0, hfz10_1⟩ := zB3 BK177.out
      go_wp2_with (first | (refine zO (some 9) Tryd.func33 #[.int .i64 a0_0] ?_; (with_reducible refine (spec_l01Full.calls a0_0 t181 _ A5.out).mono ?_); rintro e w' ⟨rfl, ⟨nd, rfl⟩⟩; refine ⟨_, rfl, ?_⟩) | (refine zO (some 15) Tryd.func56 #[.agg #[.int .i64 a0_0, .slice A0_1 l0_1.length c0_1], .int .i64 x4_1] ?_; (with_reducible refine (spec_l02Step.calls k1 a0_0 _ _ l0_1 x4_1 true _ ?side1 ?side2 A7.out).mono ?_); (case side1 => exact zS (kO HR0_1.out (zT HB.out GE177.out))); (case side2 => exact HC0_1.out); rintro e w11 ⟨rfl, hb⟩; refine ⟨_, rfl, ?_⟩; replace HO_3 := zA (kL (zP HO_3.out) hb); replace BK177 := zA (zB1 BK177.out hb); replace HB := zA (kQ (zT HB.out GE177.out) hb); (try clear hb)) | ((with_reducible refine gate_builtin (b := .append) (xs := #[.tmp 16, .tmp 18]) rfl ?_); at_builtin; refine Kd.R_append (Kd.int .i64) (w0 := w) w.heap.size rfl (.tmp 16) (.tmp 18) 22 2 (.int .i64 0) 8 rfl Tryd.underlying22 info2 rfl (by decide) (by omega) u3 x3_1 x4_1 [.int .i64 x4_1] (fun _ => True) (fun _ => False) rfl rfl ?aP (fun _ hk => hk.elim) ?aF ?aO ?aB ?aS ?aL ?_; (case aP => exact rfl); (case aB => exact (zT HB.out GE177.out)); (case aF => exact (fun _ _ => trivial)); (case aO => exact (zP HO_3.out)); (case aS => exact (kP (zT HB.out GE177.out))); (case aL => have := LMc9.out; omega); intro v184 w12 ho hb hg hat; rw [← Ny183.out] at ho; replace BK177 := zA (blk_grown (g := gb177) (o := .cells #[.int .i64 a0_0, .slice A0_1 l0_1.length c0_1] 29 (0, 0)) (zR BK177.out) hg (Kd.R_ne HO_3.out BK177.out (by decide))); replace HB := zA (hb); have HO185 := zA (ho); clear HO_3; clear ho hb hg hat))
      go_roundg k1
      case measure => have := HK1.out; omega
      case rel => exact ⟨(y183), (wrap64 (x4_1 + 1)), zs, H', ⟨by have := HK1.out; omega⟩, ⟨zP HO185.out⟩, ⟨zR BK177.out⟩, ⟨zT HB.out GE177.out⟩⟩
     rw [if_neg c9] at H
     exact absurd H (by simp)
    replace c8 := Bool.eq_false_iff.mpr c8
    subst c8
    rw [if_neg (show ¬ (false = true) by decide)] at H
    have H' := zA H
    clear H
    obtain ⟨hcz13_0, hcz13_1, hfz13_0, hfz13_1⟩ := zB3 BK177.out
    go_wp2_with (first | (refine zO (some 9) Tryd.func33 #[.int .i64 a0_0] ?_; (with_reducible refine (spec_l01Full.calls a0_0 t181 _ A5.out).mono ?_); rintro e w' ⟨rfl, ⟨nd, rfl⟩⟩; refine ⟨_, rfl, ?_⟩) | (refine zO (some 15) Tryd.func56 #[.agg #[.int .i64 a0_0, .slice A0_1 l0_1.length c0_1], .int .i64 x4_1] ?_; (with_reducible refine (spec_l02Step.calls k1 a0_0 _ _ l0_1 x4_1 false _ ?side1 ?side2 A7.out).mono ?_); (case side1 => exact zS (kO HR0_1.out (zT HB.out GE177.out))); (case side2 => exact HC0_1.out); rintro e w14 ⟨rfl, hb⟩; refine ⟨_, rfl, ?_⟩; replace HO_3 := zA (kL (zP HO_3.out) hb); replace BK177 := zA (zB1 BK177.out hb); replace HB := zA (kQ (zT HB.out GE177.out) hb); (try clear hb)))
    go_roundg k1
    case measure => have := HK1.out; omega
    case rel => exact ⟨(x3_1), (wrap64 (x4_1 + 1)), zs, H', ⟨by have := HK1.out; omega⟩, ⟨zP HO_3.out⟩, ⟨zR BK177.out⟩, ⟨zT HB.out GE177.out⟩⟩
   rw [if_neg c6] at H
   have c6b0 : decide (x4_1 ≤ t181) = false := decide_eq_false c6
   clear c6
   obtain rfl := Option.some.inj H
   obtain ⟨hcz15_0, hcz15_1, hfz15_0, hfz15_1⟩ := zB3 BK177.out
   go_wp2_with (first | (refine zO (some 9) Tryd.func33 #[.int .i64 a0_0] ?_; (with_reducible refine (spec_l01Full.calls a0_0 t181 _ A5.out).mono ?_); rintro e w' ⟨rfl, ⟨nd, rfl⟩⟩; refine ⟨_, rfl, ?_⟩))
   go_ret
   exact ⟨_, zr, zP HO_3.out, zT HB.out GE177.out⟩

/-! ### spec_l01Own: function 46 -/
def spec_l01Own.f (l0 : List Int) : Option (List Int) := (some (([] : List Int) : List Int)).bind fun y186 => (if y186.length + l0.length < 17592186044416 then (some (y186 ++ l0)) else (none))
set_option maxHeartbeats 8000000 in
set_option maxRecDepth 100000 in
theorem spec_l01Own.calls (A0 : Option Addr) (c0 : Nat) (l0 : List Int) (r : List Int) (w : World) (hr0 : Kd.C (Kd.int .i64) w A0 l0.length l0) (hc0 : l0.length ≤ c0) (h : spec_l01Own.f l0 = some r) :
  Calls Tryd.prog 46 #[.slice A0 l0.length c0] w fun e w' => ∃ v0_ : Value, e = .returned (v0_) ∧ Kd.R (Kd.int .i64) 2 w' w.heap.size (fun _ => True) v0_ r ∧ Below w.heap.size w w' := by
 have HR0 := zA hr0
 have HC0 := zA hc0
 clear hr0 hc0
 have HB := zA (kW w.heap.size w)
 have H := h
 unfold spec_l01Own.f at H
 clear h
 obtain ⟨y186, hy186⟩ : ∃ y_ : List Int, y_ = (([] : List Int)) := ⟨_, rfl⟩
 replace H : (if y186.length + l0.length < 17592186044416 then (some (y186 ++ l0)) else (none)) = some r := zy hy186 H
 have Ny186 := zA hy186
 clear hy186
 by_cases c2 : y186.length + l0.length < 17592186044416
 ·rw [if_pos c2] at H
  have LMc2 := zA c2
  clear c2
  obtain ⟨y189, hy189⟩ : ∃ y_ : List Int, y_ = (y186 ++ l0) := ⟨_, rfl⟩
  replace H : (some y189) = some r := zy hy189 H
  have Ny189 := zA hy189
  clear hy189
  obtain rfl := Option.some.inj H
  go_enter Tryd.func46, Tryd.ntmps46
  go_wp2_with (first | ((with_reducible refine kS (N := 3) rfl ?_); refine Kd.R_lit (Kd.int .i64) _ 2 ?hg (N := 3) ?hd (xs := ([] : List Int)) (inner := []) (ok := fun _ => True) (okp := fun _ => True) ?hr ?hp (fun _ hk => hk) trivial (kW _ _) (Nat.le_refl _) (by simp) ?_; (case hd => rfl); (case hg => rfl); (case hr => first | (go_simp; done) | (go_simp; rfl)); (case hp => exact (Reps.none _ _)); intro v187 w3 ho4 hb hg_ hnew_; clear hg_ hnew_; (first | rw [← Ny186.out] at ho4 | (simp only [Int.reduceToNat] at ho4; rw [← Ny186.out] at ho4)); have HO188 := zA (kI ho4 (kP (zQ HB.out))); replace HB := zA (kQ (zQ HB.out) hb); clear hb ho4) | ((with_reducible refine gate_builtin (b := .append) (xs := #[.tmp 3, .tmp 4]) rfl ?_); at_builtin; refine Kd.R_append_rows (Kd.int .i64) (w0 := w) w.heap.size rfl (.tmp 3) (.tmp 4) 22 2 (.int .i64 0) 8 rfl Tryd.underlying22 info2 rfl (by decide) (by omega) v187 y186 l0 _ _ _ (fun _ => True) (fun _ => False) rfl rfl ?aO ?aR (fun _ _ h => h) (fun _ h => h.elim) ?aF ?aB ?aS ?aL ?_; (case aR => exact zS (kO HR0.out HB.out)); (case aB => exact (zQ HB.out)); (case aF => exact (fun _ _ => trivial)); (case aO => exact (zP HO188.out)); (case aS => exact (kP (zQ HB.out))); (case aL => have := LMc2.out; omega); intro v190 w5 ho hb hg hat; rw [← Ny189.out] at ho; replace HB := zA (hb); have HO191 := zA (ho); clear HO188; clear ho hb hg hat))
  go_ret
  exact ⟨_, zr, zP HO191.out, zQ HB.out⟩
 rw [if_neg c2] at H
 exact absurd H (by simp)

/-! ### spec_l01Bits: function 57 -/
def spec_l01Bits.l0 : Nat → Int → Int → Option (Int)
 | 0, _, _ => none
 | k + 1, x0, x3 => if x0 > 0 then (spec_l01Bits.l0 k (wrap64 (Int.tdiv x0 2)) (wrap64 (x3 + (Int.tmod x0 2)))) else (some x3)
def spec_l01Bits.f (k : Nat) (a0 : Int) : Option (Int) := spec_l01Bits.l0 k a0 0

set_option maxHeartbeats 8000000 in
set_option maxRecDepth 100000 in
theorem spec_l01Bits.calls (k : Nat) (a0 : Int) (r : Int) (w : World) (h : spec_l01Bits.f k a0 = some r) :
  Calls Tryd.prog 57 #[.int .i64 a0] w fun e w' => e = .returned (.int .i64 r) ∧ Drawn0 w w' := by
 have H := h
 unfold spec_l01Bits.f at H
 clear h
 have H' := zA H
 clear H
 go_enter Tryd.func57, Tryd.ntmps57
 go_wp2
 go_loopg [0, 3] k (fun kq v0 v3 w' => ∃ (x0_1 : Int) (x3_1 : Int), v0 = .int .i64 x0_1 ∧ v3 = .int .i64 x3_1 ∧ Aside0 (spec_l01Bits.l0 kq x0_1 x3_1 = some r) ∧ Aside0 (kq ≤ k) ∧ Drawn0 w w')
 case atStart => exact ⟨(a0), (0), zs, zs, H', ⟨Nat.le_refl _⟩, by repeat (first | exact Drawn0.refl _ | apply Drawn0.step)⟩
 case round =>
  clear H'
  obtain ⟨x0_1, x3_1, rfl, rfl, HA, HK1, ⟨m1, rfl⟩⟩ := hrel
  cases gk with
  | zero => exact absurd HA.out (by simp [spec_l01Bits.l0])
  | succ k1 =>
   have H := HA.out
   clear HA
   simp only [spec_l01Bits.l0] at H
   by_cases c2 : x0_1 > 0
   ·rw [if_pos c2] at H
    have c2b0 : decide (0 < x0_1) = true := decide_eq_true c2
    clear c2
    have H' := zA H
    clear H
    go_wp2
    go_roundg k1
    case measure => have := HK1.out; omega
    case rel => exact ⟨(wrap64 (Int.tdiv x0_1 2)), (wrap64 (x3_1 + (Int.tmod x0_1 2))), zs, zs, H', ⟨by have := HK1.out; omega⟩, by repeat (first | exact Drawn0.refl _ | apply Drawn0.step)⟩
   rw [if_neg c2] at H
   have c2b0 : decide (0 < x0_1) = false := decide_eq_false c2
   clear c2
   obtain rfl := Option.some.inj H
   go_wp2
   go_ret
   exact ⟨zs, by repeat (first | exact Drawn0.refl _ | apply Drawn0.step)⟩

/-! ### spec_l06Reach: function 58 -/
def spec_l06Reach.l0 : Nat → Int → Int → Int → Int → List Int → Option (Int)
 | 0, _, _, _, _, _ => none
 | k + 1, x1, x5, x6, x193000, x193001 => if x6 < x193000 then ((spec_l01Bit.f x1 x6).bind fun t193 => (if t193 = true then (if 0 ≤ x6 then (if x6 < (x193001.length : Int) then (spec_l06Reach.l0 k x1 (Go.bits .or .i64 x5 (rd x193001 x6)) (wrap64 (x6 + 1)) x193000 x193001) else (none)) else (none)) else (spec_l06Reach.l0 k x1 x5 (wrap64 (x6 + 1)) x193000 x193001))) else (some x5)
def spec_l06Reach.f (k : Nat) (a0_0 : Int) (l0_1 : List Int) (a1 : Int) : Option (Int) := spec_l06Reach.l0 k a1 0 0 a0_0 l0_1

set_option maxHeartbeats 8000000 in
set_option maxRecDepth 100000 in
theorem spec_l06Reach.calls (k : Nat) (a0_0 : Int) (A0_1 : Option Addr) (c0_1 : Nat) (l0_1 : List Int) (a1 : Int) (r : Int) (w : World) (hr0_1 : Kd.C (Kd.int .i64) w A0_1 l0_1.length l0_1) (hc0_1 : l0_1.length ≤ c0_1) (h : spec_l06Reach.f k a0_0 l0_1 a1 = some r) :
  Calls Tryd.prog 58 #[.agg #[.int .i64 a0_0, .slice A0_1 l0_1.length c0_1], .int .i64 a1] w fun e w' => e = .returned (.int .i64 r) ∧ Below w.heap.size w w' := by
 have hu29 := Tryd.underlying29
 have HR0_1 := zA hr0_1
 have HC0_1 := zA hc0_1
 clear hr0_1 hc0_1
 have HB := zA (kW w.heap.size w)
 have H := h
 unfold spec_l06Reach.f at H
 clear h
 have H' := zA H
 clear H
 go_enter Tryd.func58, Tryd.ntmps58
 go_wp2_with (first | (refine zBE 2 #[.int .i64 a0_0, .slice A0_1 l0_1.length c0_1] 29 ?_; intro gb192 hg w3 hbox hb; have BK192 := zA (hbox); have GW192 := zA (zBH hg HB.out); have GE192 := zA (zBH hg HB.out); replace HB := zA (kQ (zQ HB.out) hb); clear hb hbox hg))
 go_loopg [5, 6] k (fun kq v5 v6 w' => ∃ (x5_1 : Int) (x6_1 : Int), v5 = .int .i64 x5_1 ∧ v6 = .int .i64 x6_1 ∧ Aside0 (spec_l06Reach.l0 kq a1 x5_1 x6_1 a0_0 l0_1 = some r) ∧ Aside0 (kq ≤ k) ∧ Aside0 (w'.heap[gb192]? = some (.cells #[.int .i64 a0_0, (.slice A0_1 l0_1.length c0_1)] 29 (0, 0))) ∧ Aside0 (Below w.heap.size w w'))
 case atStart => exact ⟨(0), (0), zs, zs, H', ⟨Nat.le_refl _⟩, ⟨zR BK192.out⟩, ⟨zT HB.out GE192.out⟩⟩
 case round =>
  clear H'
  obtain ⟨x5_1, x6_1, rfl, rfl, HA, HK1, BK192, HB⟩ := hrel
  cases gk with
  | zero => exact absurd HA.out (by simp [spec_l06Reach.l0])
  | succ k1 =>
   have H := HA.out
   clear HA
   simp only [spec_l06Reach.l0] at H
   by_cases c4 : x6_1 < a0_0
   ·rw [if_pos c4] at H
    have c4b0 : decide (x6_1 < a0_0) = true := decide_eq_true c4
    clear c4
    obtain ⟨t193, A5, H⟩ := zb H
    try dsimp only at H
    by_cases c6 : t193 = true
    ·subst c6
     rw [if_pos rfl] at H
     by_cases c7 : 0 ≤ x6_1
     ·rw [if_pos c7] at H
      have c7b0 : decide (0 ≤ x6_1) = true := decide_eq_true c7
      clear c7
      by_cases c8 : x6_1 < (l0_1.length : Int)
      ·rw [if_pos c8] at H
       have c8b0 : decide (x6_1 < (l0_1.length : Int)) = true := decide_eq_true c8
       clear c8
       have H' := zA H
       clear H
       obtain ⟨hcz9_0, hcz9_1, hfz9_0, hfz9_1⟩ := zB3 BK192.out
       go_wp2_with (first | (refine zO (some 15) Tryd.func47 #[.int .i64 a1, .int .i64 x6_1] ?_; (with_reducible refine (spec_l01Bit.calls a1 x6_1 true _ A5.out).mono ?_); rintro e w' ⟨rfl, ⟨nd, rfl⟩⟩; refine ⟨_, rfl, ?_⟩; have p194 : 0 ≤ (x6_1 : Int) := zd; have q194 : x6_1 < (l0_1.length : Int) := zd; obtain ⟨ad194, e194, hx194_0⟩ := Kd.at_int HR0_1.out x6_1 p194 q194; cases e194; replace hx194_0 := (HB.out.cell (jG w _ hx194_0)).trans hx194_0; replace p194 := eq_true p194; replace q194 := eq_true q194))
       go_roundg k1
       case measure => have := HK1.out; omega
       case rel => exact ⟨(Go.bits .or .i64 x5_1 (rd l0_1 x6_1)), (wrap64 (x6_1 + 1)), zs, zs, H', ⟨by have := HK1.out; omega⟩, ⟨zR BK192.out⟩, ⟨zT HB.out GE192.out⟩⟩
      rw [if_neg c8] at H
      exact absurd H (by simp)
     rw [if_neg c7] at H
     exact absurd H (by simp)
    replace c6 := Bool.eq_false_iff.mpr c6
    subst c6
    rw [if_neg (show ¬ (false = true) by decide)] at H
    have H' := zA H
    clear H
    obtain ⟨hcz10_0, hcz10_1, hfz10_0, hfz10_1⟩ := zB3 BK192.out
    go_wp2_with (first | (refine zO (some 15) Tryd.func47 #[.int .i64 a1, .int .i64 x6_1] ?_; (with_reducible refine (spec_l01Bit.calls a1 x6_1 false _ A5.out).mono ?_); rintro e w' ⟨rfl, ⟨nd, rfl⟩⟩; refine ⟨_, rfl, ?_⟩))
    go_roundg k1
    case measure => have := HK1.out; omega
    case rel => exact ⟨(x5_1), (wrap64 (x6_1 + 1)), zs, zs, H', ⟨by have := HK1.out; omega⟩, ⟨zR BK192.out⟩, ⟨zT HB.out GE192.out⟩⟩
   rw [if_neg c4] at H
   have c4b0 : decide (x6_1 < a0_0) = false := decide_eq_false c4
   clear c4
   obtain rfl := Option.some.inj H
   obtain ⟨hcz11_0, hcz11_1, hfz11_0, hfz11_1⟩ := zB3 BK192.out
   go_wp2
   go_ret
   exact ⟨zr, zT HB.out GE192.out⟩

end Go.Proofs.YtemdfjdmokbcoaaDoor.PAll
