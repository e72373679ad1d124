-- Printed by a program of the session (wip/tools/pgen.py) out of the translation. Not trusted: Lean checks it.
import Derived.Test.YtcboobfmenonhaaDoorPAllx0
import Derived.Test.YtcboobfmenonhaaDoorPAllx1
namespace Go.Proofs.YtcboobfmenonhaaDoor.PAll
open Go.RowKit Go.Proofs.YtcboobfmenonhaaDoor.T Go.Proofs.YtcboobfmenonhaaDoorW.PrintWords Go.Proofs.YtcboobfmenonhaaDoorW.PrintLast Go.Proofs.YtcboobfmenonhaaDoorW.PrintMore
attribute [local go_sem] max2_int min2_int max_two min_two max_three min_three max_four min_four   -- for this text's walks alone
set_option linter.unusedVariables false
set_option linter.unusedSimpArgs false

/-! ### impl_ties_normal: function 59 -/
def impl_ties_normal.l0 : Nat → List Int → List Int → List Int → Option (List Int)
 | 0, _, _, _ => none
 | k + 1, x0, x5, x6 => if (x6.length : Int) > 0 then ((impl_ties_firsts.f k x0 x6).bind fun t178 => ((impl_least.f t178).bind fun t179 => (if x5.length < 17592186044416 then ((impl_withoutFirst.f k x6 t179).bind fun t183 => (impl_ties_normal.l0 k x0 (x5 ++ [t179]) t183)) else (none)))) else (some x5)
def impl_ties_normal.f (k : Nat) (l0 : List Int) (l1 : List Int) : Option (List Int) := if 0 ≤ (l1.length : Int) then (if ((l1.length : Int) : Int).toNat ≤ 35184372088832 then (impl_ties_normal.l0 k l0 (([] : List Int)) l1) else (none)) else (none)

set_option maxHeartbeats 8000000 in
set_option maxRecDepth 100000 in
theorem impl_ties_normal.calls (k : Nat) (A0 : Option Addr) (c0 : Nat) (l0 : List Int) (P1_ : Nat → Prop) (A1 : Option Addr) (c1 : Nat) (l1 : List Int) (r : List Int) (w : World) (hr0 : Kd.C (Kd.int .i64) w A0 l0.length l0) (hc0 : l0.length ≤ c0) (hs1 : Kd.V (Kd.int .i64) 2 w w.heap.size (fun k_ => P1_ k_) (.slice A1 l1.length c1) l1) (hT : TabW w) (h : impl_ties_normal.f k l0 l1 = some r) :
  Calls Tryd.prog 59 #[.slice A0 l0.length c0, .slice A1 l1.length c1] w fun e w' => ∃ v0_ : Value, e = .returned (v0_) ∧ Kd.R (Kd.int .i64) 2 w' w.heap.size (fun k_ => (w.heap.size ≤ k_)) v0_ r ∧ Below w.heap.size w w' := by
 have HT := zA hT
 clear hT
 have HR0 := zA hr0
 have HC0 := zA hc0
 clear hr0 hc0
 have HO1 := zA (show Kd.V (Kd.int .i64) 2 w w.heap.size (fun k_ => (P1_ k_ ∨ w.heap.size ≤ k_)) (.slice A1 l1.length c1) l1 from kN hs1 (fun k_ hk => .inl hk))
 have HB := zA (kW w.heap.size w)
 have H := h
 unfold impl_ties_normal.f at H
 clear h
 by_cases c3 : 0 ≤ (l1.length : Int)
 ·rw [if_pos c3] at H
  have c3b0 := eq_true c3
  have c3b1 : decide (0 ≤ (l1.length : Int)) = true := decide_eq_true c3
  clear c3
  by_cases c4 : ((l1.length : Int) : Int).toNat ≤ 35184372088832
  ·rw [if_pos c4] at H
   have c4b0 := eq_true c4
   have c4b1 : decide (((l1.length : Int) : Int).toNat ≤ 35184372088832) = true := decide_eq_true c4
   clear c4
   obtain ⟨y175, hy175⟩ : ∃ y_ : List Int, y_ = (([] : List Int)) := ⟨_, rfl⟩
   replace H : (impl_ties_normal.l0 k l0 y175 l1) = some r := zy hy175 H
   have Ny175 := zA hy175
   clear hy175
   have H' := zA H
   clear H
   go_enter Tryd.func59, Tryd.ntmps59
   go_wp2_with (first | ((with_reducible refine kS (N := 10) rfl ?_); refine Kd.R_make0 (Kd.int .i64) _ 2 rfl (N := 10) rfl 24 _ _ rfl (l1.length : Int) rfl rfl Tryd.underlying24 (.int .i64 0) 8 info2 rfl (by decide) (by omega) 0 (ok := fun _ => True) (okp := fun _ => True) rfl (fun _ hk => hk) trivial (zd) (Nat.le_trans (Nat.mul_le_mul_right _ (zd : (l1.length : Int).toNat ≤ 35184372088832)) (by omega)) (kW _ _) (Nat.le_refl _) ?_; intro v176 w5 ho6 hb hg_ hnew_; clear hg_ hnew_; (first | rw [← Ny175.out] at ho6 | (simp only [Int.reduceToNat] at ho6; rw [← Ny175.out] at ho6)); replace HO1 := zA (kK (zPV HO1.out) (kC ho6) hb); have HO177 := zA (kI (Kd.R_newM (M := fun k_ => (w.heap.size ≤ k_)) ho6 (kP (zQ HB.out)) (fun k_ h_ => h_)) (kP (zQ HB.out))); replace HB := zA (kQ (zQ HB.out) hb); clear hb ho6))
   go_loopg [5, 6] k (fun kq v5 v6 w' => ∃ (x5_1 : List Int) (x6_1 : List Int), Aside0 (impl_ties_normal.l0 kq l0 x5_1 x6_1 = some r) ∧ Aside0 (kq ≤ k) ∧ Aside0 (Kd.R (Kd.int .i64) 2 w' w.heap.size (fun k_ => (w.heap.size ≤ k_)) v5 x5_1) ∧ Aside0 (Kd.V (Kd.int .i64) 2 w' w.heap.size (fun k_ => (P1_ k_ ∨ w.heap.size ≤ k_) ∧ some k_ ≠ (v5 : Value).ownBlock) v6 x6_1) ∧ Aside0 (Below w.heap.size w w'))
   case atStart => exact ⟨(y175), (l1), H', ⟨Nat.le_refl _⟩, ⟨zPM HO177.out (fun _ hk => hk.1)⟩, ⟨zPV HO1.out⟩, ⟨zQ HB.out⟩⟩
   case round =>
    clear H'
    try clear c1
    try clear c3
    try clear c4
    try clear c5
    obtain ⟨x5_1, x6_1, HA, HK1, HO_5, HO_6, HB⟩ := hrel
    cases gk with
    | zero => exact absurd HA.out (by simp [impl_ties_normal.l0])
    | succ k1 =>
     have H := HA.out
     clear HA
     simp only [impl_ties_normal.l0] at H
     by_cases c7 : (x6_1.length : Int) > 0
     ·rw [if_pos c7] at H
      have c7b0 : decide (0 < (x6_1.length : Int)) = true := decide_eq_true c7
      have c7b1 : decide (0 < x6_1.length) = true := decide_eq_true (by omega)
      clear c7
      obtain ⟨t178, A8, H⟩ := zb H
      try dsimp only at H
      obtain ⟨t179, A9, H⟩ := zb H
      try dsimp only at H
      by_cases c10 : x5_1.length < 17592186044416
      ·rw [if_pos c10] at H
       have LMc10 := zA c10
       clear c10
       obtain ⟨y180, hy180⟩ : ∃ y_ : List Int, y_ = (x5_1 ++ [t179]) := ⟨_, rfl⟩
       replace H : ((impl_withoutFirst.f k1 x6_1 t179).bind fun t183 => (impl_ties_normal.l0 k1 l0 y180 t183)) = some r := zy hy180 H
       have Ny180 := zA hy180
       clear hy180
       obtain ⟨t183, A11, H⟩ := zb H
       try dsimp only at H
       have H' := zA H
       clear H
       obtain ⟨Ao12, co12, eo12⟩ := Kd.V_slice HO_6.out
       subst eo12
       go_wp2_with (first | (refine zO (some 17) Tryd.func98 #[.slice A0 l0.length c0, .slice Ao12 x6_1.length co12] ?_; (with_reducible refine (impl_ties_firsts.calls k1 _ _ l0 _ _ x6_1 t178 _ ?side1 ?side2 ?side3 ?side4 A8.out).mono ?_); (case side1 => exact zS (kO HR0.out HB.out)); (case side2 => exact HC0.out); (case side3 => exact zS (kJ HO_6.out).2.2); (case side4 => exact (kJ HO_6.out).2.1); rintro e w' ⟨rfl, ⟨nd, rfl⟩⟩; refine ⟨_, rfl, ?_⟩) | (refine zO (some 18) Tryd.func99 #[.int .i64 t178] ?_; (with_reducible refine (impl_least.calls t178 t179 _ ?side1 A9.out).mono ?_); (case side1 => exact TabW.below HT.out (zQ HB.out)); rintro e w' ⟨rfl, ⟨nd, rfl⟩⟩; refine ⟨_, rfl, ?_⟩) | ((with_reducible refine gate_builtin (b := .append) (xs := #[.tmp 19, .tmp 21]) rfl ?_); at_builtin; refine Kd.R_append (Kd.int .i64) (w0 := w) w.heap.size rfl (.tmp 19) (.tmp 21) 24 2 (.int .i64 0) 8 rfl Tryd.underlying24 info2 rfl (by decide) (by omega) u5 x5_1 t179 [.int .i64 t179] (fun k_ => (w.heap.size ≤ k_)) (fun _ => False) rfl rfl ?aP (fun _ hk => hk.elim) ?aF ?aO ?aB ?aS ?aL ?_; (case aP => exact rfl); (case aB => exact (zQ HB.out)); (case aF => exact (fun k_ hk => (Nat.le_trans (kP (zQ HB.out)) hk))); (case aO => exact (zP HO_5.out)); (case aS => exact (kP (zQ HB.out))); (case aL => have := LMc10.out; omega); intro v181 w13 ho hb hg hat; rw [← Ny180.out] at ho; replace HO_6 := zA (Kd.V_afterv (ok := (fun k_ => (P1_ k_ ∨ w.heap.size ≤ k_))) (zPV HO_6.out) hg hat); replace HB := zA (hb); have HO182 := zA (ho); clear HO_5; clear ho hb hg hat) | (refine zO (some 25) Tryd.func100 #[.slice Ao12 x6_1.length co12, .int .i64 t179] ?_; (with_reducible refine (impl_withoutFirst.calls k1 (fun k_ => ((P1_ k_ ∨ w.heap.size ≤ k_) ∧ some k_ ≠ (v181 : Value).ownBlock)) _ _ x6_1 t179 t183 _ ?side1 A11.out).mono ?_); (case side1 => exact HO_6.out); rintro e w14 ⟨v184, rfl, ho0, hb⟩; refine ⟨_, rfl, ?_⟩; replace HO_6 := zA (kK (zPV HO_6.out) (kC ho0) hb); have HO185 := zA (kI (kF (Kd.R_newM (M := fun k_ => (w.heap.size ≤ k_)) (kA (ok' := fun k_ => True) ho0 (fun _ hk_ => trivial)) (kP (zQ HB.out)) (fun k_ h_ => h_)) (kH (zP HO182.out))) (kP (zQ HB.out))); replace HO182 := zA (kE (zP HO182.out) (kC ho0) hb); replace HB := zA (kQ (zQ HB.out) hb); (try clear hb); (try clear ho0)))
       go_roundg k1
       case measure => have := HK1.out; omega
       case rel => exact ⟨(y180), (t183), H', ⟨by have := HK1.out; omega⟩, ⟨zPM HO182.out (fun _ hk => hk.1)⟩, ⟨kN (jL (zP HO185.out)) (fun k_ hk => by first | exact ⟨(.inr (hk.1.1)), hk.2⟩ | exact ⟨(.inr (hk.1)), hk.2⟩ | exact (.inr (hk)))⟩, ⟨zQ HB.out⟩⟩
      rw [if_neg c10] at H
      exact absurd H (by simp)
     rw [if_neg c7] at H
     have c7b0 : decide (0 < (x6_1.length : Int)) = false := decide_eq_false c7
     have c7b1 : decide (0 < x6_1.length) = false := decide_eq_false (by omega)
     clear c7
     obtain rfl := Option.some.inj H
     obtain ⟨Ao15, co15, eo15⟩ := Kd.V_slice HO_6.out
     subst eo15
     go_wp2
     go_ret
     exact ⟨_, zr, zP HO_5.out, zQ HB.out⟩
  rw [if_neg c4] at H
  exact absurd H (by simp)
 rw [if_neg c3] at H
 exact absurd H (by simp)

/-! ### slices_Equal_int64_int64: function 96 -/
def slices_Equal_int64_int64.l0 : Nat → List Int → List Int → Int → Int → Option (Bool)
 | 0, _, _, _, _ => none
 | k + 1, x0, x1, x12, x13 => if x13 < x12 then (if 0 ≤ x13 then (if x13 < (x0.length : Int) then (if x13 < (x1.length : Int) then (if (rd x0 x13) = (rd x1 x13) then (slices_Equal_int64_int64.l0 k x0 x1 x12 (wrap64 (x13 + 1))) else (some false)) else (none)) else (none)) else (none)) else (some true)
def slices_Equal_int64_int64.f (k : Nat) (l0 : List Int) (l1 : List Int) : Option (Bool) := if (l0.length : Int) = (l1.length : Int) then (slices_Equal_int64_int64.l0 k l0 l1 (l0.length : Int) 0) else (some false)

set_option maxHeartbeats 8000000 in
set_option maxRecDepth 100000 in
theorem slices_Equal_int64_int64.calls (k : Nat) (A0 : Option Addr) (c0 : Nat) (l0 : List Int) (A1 : Option Addr) (c1 : Nat) (l1 : List Int) (r : Bool) (w : World) (hr0 : Kd.C (Kd.int .i64) w A0 l0.length l0) (hc0 : l0.length ≤ c0) (hr1 : Kd.C (Kd.int .i64) w A1 l1.length l1) (hc1 : l1.length ≤ c1) (h : slices_Equal_int64_int64.f k l0 l1 = some r) :
  Calls Tryd.prog 96 #[.slice A0 l0.length c0, .slice A1 l1.length c1] w fun e w' => e = .returned (.bool r) ∧ Drawn0 w w' := by
 have HR0 := zA hr0
 have HC0 := zA hc0
 clear hr0 hc0
 have HR1 := zA hr1
 have HC1 := zA hc1
 clear hr1 hc1
 have H := h
 unfold slices_Equal_int64_int64.f at H
 clear h
 by_cases c3 : (l0.length : Int) = (l1.length : Int)
 ·rw [if_pos c3] at H
  obtain ⟨c3b0, c3b1⟩ := zT1 c3
  have c3b2 : (l0.length == l1.length) = true := by first | simpa using c3 | (simp at c3 ⊢; omega)
  clear c3
  have H' := zA H
  clear H
  go_enter Tryd.func96, Tryd.ntmps96
  go_wp2
  repeat (go_quiet (fail); try go_wp2)
  go_loopg [13] k (fun kq v13 w' => ∃ (x13_1 : Int), v13 = .int .i64 x13_1 ∧ Aside0 (slices_Equal_int64_int64.l0 kq l0 l1 (l0.length : Int) x13_1 = some r) ∧ Aside0 (kq ≤ k) ∧ Drawn0 w w')
  case atStart => exact ⟨(0), zs, H', ⟨Nat.le_refl _⟩, by repeat (first | exact Drawn0.refl _ | apply Drawn0.step)⟩
  case round =>
   clear H'
   try clear c1
   try clear c3
   obtain ⟨x13_1, rfl, HA, HK1, ⟨m1, rfl⟩⟩ := hrel
   cases gk with
   | zero => exact absurd HA.out (by simp [slices_Equal_int64_int64.l0])
   | succ k1 =>
    have H := HA.out
    clear HA
    simp only [slices_Equal_int64_int64.l0] at H
    by_cases c4 : x13_1 < (l0.length : Int)
    ·rw [if_pos c4] at H
     have c4b0 : decide (x13_1 < (l0.length : Int)) = true := decide_eq_true c4
     clear c4
     by_cases c5 : 0 ≤ x13_1
     ·rw [if_pos c5] at H
      have c5b0 : decide (0 ≤ x13_1) = true := decide_eq_true c5
      clear c5
      by_cases c6 : x13_1 < (l0.length : Int)
      ·rw [if_pos c6] at H
       have c6b0 : decide (x13_1 < (l0.length : Int)) = true := decide_eq_true c6
       clear c6
       by_cases c7 : x13_1 < (l1.length : Int)
       ·rw [if_pos c7] at H
        have c7b0 : decide (x13_1 < (l1.length : Int)) = true := decide_eq_true c7
        clear c7
        by_cases c8 : (rd l0 x13_1) = (rd l1 x13_1)
        ·rw [if_pos c8] at H
         obtain ⟨c8b0, c8b1⟩ := zT1 c8
         clear c8
         have H' := zA H
         clear H
         have p186 : 0 ≤ (x13_1 : Int) := zd
         have q186 : x13_1 < (l0.length : Int) := zd
         obtain ⟨ad186, e186, hx186_0⟩ := Kd.at_int HR0.out x13_1 p186 q186
         cases e186
         replace p186 := eq_true p186
         replace q186 := eq_true q186
         have p187 : 0 ≤ (x13_1 : Int) := zd
         have q187 : x13_1 < (l1.length : Int) := zd
         obtain ⟨ad187, e187, hx187_0⟩ := Kd.at_int HR1.out x13_1 p187 q187
         cases e187
         replace p187 := eq_true p187
         replace q187 := eq_true q187
         go_wp2
         repeat (go_quiet (fail); try go_wp2)
         go_roundg k1
         case measure => have := HK1.out; omega
         case rel => exact ⟨(wrap64 (x13_1 + 1)), zs, H', ⟨by have := HK1.out; omega⟩, by repeat (first | exact Drawn0.refl _ | apply Drawn0.step)⟩
        rw [if_neg c8] at H
        obtain ⟨c8b0, c8b1⟩ := zT2 c8
        obtain rfl := Option.some.inj H
        have p186 : 0 ≤ (x13_1 : Int) := zd
        have q186 : x13_1 < (l0.length : Int) := zd
        obtain ⟨ad186, e186, hx186_0⟩ := Kd.at_int HR0.out x13_1 p186 q186
        cases e186
        replace p186 := eq_true p186
        replace q186 := eq_true q186
        have p187 : 0 ≤ (x13_1 : Int) := zd
        have q187 : x13_1 < (l1.length : Int) := zd
        obtain ⟨ad187, e187, hx187_0⟩ := Kd.at_int HR1.out x13_1 p187 q187
        cases e187
        replace p187 := eq_true p187
        replace q187 := eq_true q187
        go_wp2
        repeat (go_quiet (fail); try go_wp2)
        go_ret
        exact ⟨zs, by repeat (first | exact Drawn0.refl _ | apply Drawn0.step)⟩
       rw [if_neg c7] at H
       exact absurd H (by simp)
      rw [if_neg c6] at H
      exact absurd H (by simp)
     rw [if_neg c5] at H
     exact absurd H (by simp)
    rw [if_neg c4] at H
    have c4b0 : decide (x13_1 < (l0.length : Int)) = false := decide_eq_false c4
    clear c4
    obtain rfl := Option.some.inj H
    go_wp2
    repeat (go_quiet (fail); try go_wp2)
    go_ret
    exact ⟨zs, by repeat (first | exact Drawn0.refl _ | apply Drawn0.step)⟩
 rw [if_neg c3] at H
 obtain ⟨c3b0, c3b1⟩ := zT2 c3
 have c3b2 : (l0.length == l1.length) = false := by first | simpa using c3 | (simp at c3 ⊢; omega)
 obtain rfl := Option.some.inj H
 go_enter Tryd.func96, Tryd.ntmps96
 go_wp2
 repeat (go_quiet (fail); try go_wp2)
 go_ret
 exact ⟨zs, by repeat (first | exact Drawn0.refl _ | apply Drawn0.step)⟩

/-! ### impl_ties_same: function 55 -/
def impl_ties_same.f (k : Nat) (l0 : List Int) (l1 : List Int) (l2 : List Int) : Option (Bool) := (impl_ties_normal.f k l0 l1).bind fun t188 => ((impl_ties_normal.f k l0 l2).bind fun t191 => ((slices_Equal_int64_int64.f k t188 t191).bind fun t194 => (some t194)))

set_option maxHeartbeats 8000000 in
set_option maxRecDepth 100000 in
theorem impl_ties_same.calls (k : Nat) (A0 : Option Addr) (c0 : Nat) (l0 : List Int) (A1 : Option Addr) (c1 : Nat) (l1 : List Int) (A2 : Option Addr) (c2 : Nat) (l2 : List Int) (r : Bool) (w : World) (hr0 : Kd.C (Kd.int .i64) w A0 l0.length l0) (hc0 : l0.length ≤ c0) (hr1 : Kd.C (Kd.int .i64) w A1 l1.length l1) (hc1 : l1.length ≤ c1) (hr2 : Kd.C (Kd.int .i64) w A2 l2.length l2) (hc2 : l2.length ≤ c2) (hT : TabW w) (h : impl_ties_same.f k l0 l1 l2 = some r) :
  Calls Tryd.prog 55 #[.slice A0 l0.length c0, .slice A1 l1.length c1, .slice A2 l2.length c2] w fun e w' => e = .returned (.bool r) ∧ Below w.heap.size w w' := by
 have HT := zA hT
 clear hT
 have HR0 := zA hr0
 have HC0 := zA hc0
 clear hr0 hc0
 have HR1 := zA hr1
 have HC1 := zA hc1
 clear hr1 hc1
 have HR2 := zA hr2
 have HC2 := zA hc2
 clear hr2 hc2
 have HB := zA (kW w.heap.size w)
 have H := h
 unfold impl_ties_same.f at H
 clear h
 obtain ⟨t188, A4, H⟩ := zb H
 try dsimp only at H
 obtain ⟨t191, A5, H⟩ := zb H
 try dsimp only at H
 obtain ⟨t194, A6, H⟩ := zb H
 try dsimp only at H
 obtain rfl := Option.some.inj H
 go_enter Tryd.func55, Tryd.ntmps55
 go_wp2_with (first | (refine zO (some 9) Tryd.func59 #[.slice A0 l0.length c0, .slice A1 l1.length c1] ?_; (with_reducible refine (impl_ties_normal.calls k _ _ l0 (fun k_ => k_ < w.heap.size) _ _ l1 t188 _ ?side1 ?side2 ?side3 ?side4 A4.out).mono ?_); (case side1 => exact zS HR0.out); (case side2 => exact HC0.out); (case side3 => exact Kd.V_mk HC1.out (Kd.F_below (Kd.C_F (Kd.heap_int .i64) HR1.out) (zQ HB.out))); (case side4 => exact TabW.below HT.out (zQ HB.out)); rintro e w7 ⟨v189, rfl, ho0, hb⟩; refine ⟨_, rfl, ?_⟩; have HO190 := zA (kI (kA (ok' := fun k_ => True) ho0 (fun _ hk_ => trivial)) (kP (zQ HB.out))); replace HB := zA (kQ (zQ HB.out) hb); (try clear hb); (try clear ho0)) | (refine zO (some 12) Tryd.func59 #[.slice A0 l0.length c0, .slice A2 l2.length c2] ?_; (with_reducible refine (impl_ties_normal.calls k _ _ l0 (fun k_ => k_ < w.heap.size) _ _ l2 t191 _ ?side1 ?side2 ?side3 ?side4 A5.out).mono ?_); (case side1 => exact zS (kO HR0.out HB.out)); (case side2 => exact HC0.out); (case side3 => exact Kd.V_mk HC2.out (Kd.F_below (Kd.C_F (Kd.heap_int .i64) HR2.out) (zQ HB.out))); (case side4 => exact TabW.below HT.out (zQ HB.out)); rintro e w8 ⟨v192, rfl, ho0, hb⟩; refine ⟨_, rfl, ?_⟩; have HO193 := zA (kI (kF (kA (ok' := fun k_ => True) ho0 (fun _ hk_ => trivial)) (kH (zP HO190.out))) (kP (zQ HB.out))); replace HO190 := zA (kE (zP HO190.out) (kC ho0) hb); replace HB := zA (kQ (zQ HB.out) hb); (try clear hb); (try clear ho0); obtain ⟨Ao9, co9, eo9⟩ := kM HO190.out; subst eo9; obtain ⟨Ao10, co10, eo10⟩ := kM HO193.out; subst eo10) | (refine zO (some 13) Tryd.func96 #[.slice Ao9 t188.length co9, .slice Ao10 t191.length co10] ?_; (with_reducible refine (slices_Equal_int64_int64.calls k _ _ t188 _ _ t191 t194 _ ?side1 ?side2 ?side3 ?side4 A6.out).mono ?_); (case side1 => exact zS (kB HO190.out).2.2); (case side2 => exact (kB HO190.out).2.1); (case side3 => exact zS (kB HO193.out).2.2); (case side4 => exact (kB HO193.out).2.1); rintro e w' ⟨rfl, ⟨nd, rfl⟩⟩; refine ⟨_, rfl, ?_⟩))
 go_ret
 exact ⟨zr, zQ HB.out⟩

/-! ### impl_AreSameTrace: function 25 -/
def impl_AreSameTrace.f (k : Nat) (a0_0 : Int) (l0_1 : List Int) (l1 : List Int) (l2 : List Int) : Option (Bool × Int) := (impl_checkWords.f k a0_0 l0_1 (([l1, l2] : List (List Int)))).bind fun t199 => (if t199 = 0 then ((impl_Alphabet_ties.f a0_0 l0_1).bind fun t200 => ((impl_ties_same.f k t200 l1 l2).bind fun t203 => (some (t203, 0)))) else (some (false, t199)))

set_option maxHeartbeats 8000000 in
set_option maxRecDepth 100000 in
theorem impl_AreSameTrace.calls (k : Nat) (a0_0 : Int) (P0_1_ : Nat → Prop) (A0_1 : Option Addr) (c0_1 : Nat) (l0_1 : List Int) (P1_ : Nat → Prop) (A1 : Option Addr) (c1 : Nat) (l1 : List Int) (P2_ : Nat → Prop) (A2 : Option Addr) (c2 : Nat) (l2 : List Int) (r1 : Bool) (r2 : Int) (w : World) (hs0_1 : Kd.V (Kd.int .i64) 2 w w.heap.size (fun k_ => P0_1_ k_) (.slice A0_1 l0_1.length c0_1) l0_1) (hs1 : Kd.V (Kd.int .i64) 2 w w.heap.size (fun k_ => P1_ k_) (.slice A1 l1.length c1) l1) (hs2 : Kd.V (Kd.int .i64) 2 w w.heap.size (fun k_ => P2_ k_) (.slice A2 l2.length c2) l2) (hT : TabW w) (h : impl_AreSameTrace.f k a0_0 l0_1 l1 l2 = some (r1, r2)) :
  Calls Tryd.prog 25 #[.agg #[.int .i64 a0_0, .slice A0_1 l0_1.length c0_1], .slice A1 l1.length c1, .slice A2 l2.length c2] w fun e w' => e = .returned (.tuple #[.bool r1, .int .i64 r2]) ∧ Below w.heap.size w w' := by
 have hu26 := Tryd.underlying26
 have HT := zA hT
 clear hT
 have HO0_1 := zA (show Kd.V (Kd.int .i64) 2 w w.heap.size (fun k_ => ((P0_1_ k_ ∨ P1_ k_ ∨ P2_ k_) ∨ w.heap.size ≤ k_)) (.slice A0_1 l0_1.length c0_1) l0_1 from kN hs0_1 (fun k_ hk => .inl (.inl hk)))
 have HO1 := zA (show Kd.V (Kd.int .i64) 2 w w.heap.size (fun k_ => ((P0_1_ k_ ∨ P1_ k_ ∨ P2_ k_) ∨ w.heap.size ≤ k_)) (.slice A1 l1.length c1) l1 from kN hs1 (fun k_ hk => .inl (.inr (.inl hk))))
 have HO2 := zA (show Kd.V (Kd.int .i64) 2 w w.heap.size (fun k_ => ((P0_1_ k_ ∨ P1_ k_ ∨ P2_ k_) ∨ w.heap.size ≤ k_)) (.slice A2 l2.length c2) l2 from kN hs2 (fun k_ hk => .inl (.inr (.inr hk))))
 have HB := zA (kW w.heap.size w)
 have H := h
 unfold impl_AreSameTrace.f at H
 clear h
 obtain ⟨y196, hy196⟩ : ∃ y_ : List (List Int), y_ = (([l1, l2] : List (List Int))) := ⟨_, rfl⟩
 replace H : ((impl_checkWords.f k a0_0 l0_1 y196).bind fun t199 => (if t199 = 0 then ((impl_Alphabet_ties.f a0_0 l0_1).bind fun t200 => ((impl_ties_same.f k t200 l1 l2).bind fun t203 => (some (t203, 0)))) else (some (false, t199)))) = some (r1, r2) := zy hy196 H
 have Ny196 := zA hy196
 clear hy196
 obtain ⟨t199, A4, H⟩ := zb H
 try dsimp only at H
 by_cases c5 : t199 = 0
 ·rw [if_pos c5] at H
  obtain ⟨c5b0, c5b1⟩ := zT1 c5
  clear c5
  obtain ⟨t200, A6, H⟩ := zb H
  try dsimp only at H
  obtain ⟨t203, A7, H⟩ := zb H
  try dsimp only at H
  simp only [Option.some.injEq, Prod.mk.injEq] at H
  obtain ⟨rfl, rfl⟩ := H
  go_enter Tryd.func25, Tryd.ntmps25
  go_wp2_with (first | (refine zBE 3 #[.int .i64 a0_0, .slice A0_1 l0_1.length c0_1] 26 ?_; intro gb195 hg w8 hbox hb; replace HO0_1 := zA (kG (jD (zPV HO0_1.out) gb195 (Nat.le_of_eq hg.symm)) hb); replace HO1 := zA (kG (jD (zPV HO1.out) gb195 (Nat.le_of_eq hg.symm)) hb); replace HO2 := zA (kG (jD (zPV HO2.out) gb195 (Nat.le_of_eq hg.symm)) hb); have BK195 := zA (hbox); have GW195 := zA (zBH hg HB.out); have GE195 := zA (zBH hg HB.out); replace HB := zA (kQ (zQ HB.out) hb); clear hb hbox hg; obtain ⟨hcz9_0, hcz9_1, hfz9_0, hfz9_1⟩ := zB3 BK195.out) | ((with_reducible refine kS (N := 12) rfl ?_); refine Kd.N_lit (Kd.slice 2 (Kd.int .i64)) _ 24 ?hg (N' := 12) ?hd (xs := ([l1, l2] : List (List Int))) (inner := [.slice A1 l1.length c1, .slice A2 l2.length c2]) (ok := (fun k_ => ((P0_1_ k_ ∨ P1_ k_ ∨ P2_ k_) ∨ w.heap.size ≤ k_) ∧ k_ ≠ gb195)) (okp := (fun k_ => ((P0_1_ k_ ∨ P1_ k_ ∨ P2_ k_) ∨ w.heap.size ≤ k_) ∧ k_ ≠ gb195)) ?hr ?hp (fun _ hk => hk) ((show ∀ k_ : Nat, (_ : Nat) ≤ k_ → (fun k_ => ((P0_1_ k_ ∨ P1_ k_ ∨ P2_ k_) ∨ w.heap.size ≤ k_) ∧ k_ ≠ gb195) k_ from fun k_ hk => ⟨(.inr (Nat.le_trans (kP (zT HB.out GE195.out)) hk)), jE (g := gb195) (o := .cells #[.int .i64 a0_0, .slice A0_1 l0_1.length c0_1] 26 (0, 0)) (zR BK195.out) k_ hk⟩) _ (Nat.le_refl _)) (kW _ _) (Nat.le_refl _) (by simp) ?_; (case hd => rfl); (case hg => rfl); (case hr => first | (go_simp; done) | (go_simp; rfl)); (case hp => exact (Reps.one (show Kd.FK (Kd.slice 2 (Kd.int .i64)) _ _ l1 [.slice A1 l1.length c1] from (zFK (kN (ok' := (fun k_ => ((P0_1_ k_ ∨ P1_ k_ ∨ P2_ k_) ∨ w.heap.size ≤ k_) ∧ k_ ≠ gb195)) (HO1.out) (fun k_ hk => ⟨hk.1, hk.2⟩)))) (Reps.one (show Kd.FK (Kd.slice 2 (Kd.int .i64)) _ _ l2 [.slice A2 l2.length c2] from (zFK (kN (ok' := (fun k_ => ((P0_1_ k_ ∨ P1_ k_ ∨ P2_ k_) ∨ w.heap.size ≤ k_) ∧ k_ ≠ gb195)) (HO2.out) (fun k_ hk => ⟨hk.1, hk.2⟩)))) (Reps.none _ _)))); intro v197 w10 ho11 hb hg_ hnew_; clear hg_ hnew_; (first | rw [← Ny196.out] at ho11 | (simp only [Int.reduceToNat] at ho11; rw [← Ny196.out] at ho11)); replace HO0_1 := zA (kK (zPV HO0_1.out) (Kd.N_base ho11) hb); replace HO1 := zA (kK (zPV HO1.out) (Kd.N_base ho11) hb); replace HO2 := zA (kK (zPV HO2.out) (Kd.N_base ho11) hb); have HO198 := zA (jN ho11 (kP (zT HB.out GE195.out))); replace BK195 := zA (zB1 BK195.out hb); replace HB := zA (kQ (zT HB.out GE195.out) hb); clear hb ho11; obtain ⟨Ao12, co12, eo12⟩ := Kd.N_slice HO198.out; subst eo12) | (refine zO (some 13) Tryd.func53 #[.agg #[.int .i64 a0_0, .slice A0_1 l0_1.length c0_1], .slice Ao12 y196.length co12] ?_; (with_reducible refine (impl_checkWords.calls k a0_0 _ _ l0_1 _ _ y196 t199 _ ?side1 ?side2 ?side3 ?side4 ?side5 A4.out).mono ?_); (case side1 => exact zS (kJ HO0_1.out).2.2); (case side2 => exact (kJ HO0_1.out).2.1); (case side3 => exact zS (Kd.N_reads' HO198.out).2.2); (case side4 => exact (Kd.N_reads' HO198.out).2.1); (case side5 => exact TabW.below HT.out (zT HB.out GE195.out)); rintro e w13 ⟨rfl, hb⟩; refine ⟨_, rfl, ?_⟩; replace HO0_1 := zA (kG (zPV HO0_1.out) hb); replace HO1 := zA (kG (zPV HO1.out) hb); replace HO2 := zA (kG (zPV HO2.out) hb); replace HO198 := zA (kZ (zPN HO198.out) hb); replace BK195 := zA (zB1 BK195.out hb); replace HB := zA (kQ (zT HB.out GE195.out) hb); (try clear hb); obtain ⟨hcz14_0, hcz14_1, hfz14_0, hfz14_1⟩ := zB3 BK195.out) | (refine zO (some 18) Tryd.func54 #[.agg #[.int .i64 a0_0, .slice A0_1 l0_1.length c0_1]] ?_; (with_reducible refine (impl_Alphabet_ties.calls a0_0 (fun k_ => ((((P0_1_ k_ ∨ P1_ k_ ∨ P2_ k_) ∨ w.heap.size ≤ k_) ∧ k_ ≠ gb195) ∧ some k_ ≠ (.slice Ao12 y196.length co12 : Value).ownBlock)) _ _ l0_1 t200 _ ?side1 A6.out).mono ?_); (case side1 => exact HO0_1.out); rintro e w15 ⟨v201, rfl, ho0, hb⟩; refine ⟨_, rfl, ?_⟩; replace HO0_1 := zA (kG (zPV HO0_1.out) hb); replace HO1 := zA (kG (zPV HO1.out) hb); replace HO2 := zA (kG (zPV HO2.out) hb); have HO202 := zA (jM (kN (ok' := fun k_ => ((P0_1_ k_ ∨ P1_ k_ ∨ P2_ k_) ∨ w.heap.size ≤ k_) ∧ some k_ ≠ (.slice Ao12 y196.length co12 : Value).ownBlock ∧ k_ ≠ gb195) ho0 (fun k_ hk_ => ⟨Or.elim hk_ (fun hs_ => hs_.1.1) (fun hn_ => (.inr (Nat.le_trans (kP (zT HB.out GE195.out)) hn_))), Or.elim hk_ (fun hs_ => hs_.2) (fun hn_ => (jF (jA (zPN HO198.out)) k_ hn_)), Or.elim hk_ (fun hs_ => hs_.1.2) (fun hn_ => (jE (g := gb195) (o := .cells #[.int .i64 a0_0, .slice A0_1 l0_1.length c0_1] 26 (0, 0)) (zR BK195.out) k_ hn_))⟩)) (kP (zT HB.out GE195.out))); replace HO198 := zA (kZ (zPN HO198.out) hb); replace BK195 := zA (zB1 BK195.out hb); replace HB := zA (kQ (zT HB.out GE195.out) hb); (try clear hb); (try clear ho0); obtain ⟨Ao16, co16, eo16⟩ := Kd.V_slice HO202.out; subst eo16) | (refine zO (some 21) Tryd.func55 #[.slice Ao16 t200.length co16, .slice A1 l1.length c1, .slice A2 l2.length c2] ?_; (with_reducible refine (impl_ties_same.calls k _ _ t200 _ _ l1 _ _ l2 t203 _ ?side1 ?side2 ?side3 ?side4 ?side5 ?side6 ?side7 A7.out).mono ?_); (case side1 => exact zS (kJ HO202.out).2.2); (case side2 => exact (kJ HO202.out).2.1); (case side3 => exact zS (kJ HO1.out).2.2); (case side4 => exact (kJ HO1.out).2.1); (case side5 => exact zS (kJ HO2.out).2.2); (case side6 => exact (kJ HO2.out).2.1); (case side7 => exact TabW.below HT.out (zT HB.out GE195.out)); rintro e w17 ⟨rfl, hb⟩; refine ⟨_, rfl, ?_⟩; replace HO0_1 := zA (kG (zPV HO0_1.out) hb); replace HO1 := zA (kG (zPV HO1.out) hb); replace HO2 := zA (kG (zPV HO2.out) hb); replace HO198 := zA (kZ (zPN HO198.out) hb); replace HO202 := zA (kG (zPV HO202.out) hb); replace BK195 := zA (zB1 BK195.out hb); replace HB := zA (kQ (zT HB.out GE195.out) hb); (try clear hb)))
  go_ret2
  exact ⟨zr, zT HB.out GE195.out⟩
 rw [if_neg c5] at H
 obtain ⟨c5b0, c5b1⟩ := zT2 c5
 simp only [Option.some.injEq, Prod.mk.injEq] at H
 obtain ⟨rfl, rfl⟩ := H
 go_enter Tryd.func25, Tryd.ntmps25
 go_wp2_with (first | (refine zBE 3 #[.int .i64 a0_0, .slice A0_1 l0_1.length c0_1] 26 ?_; intro gb195 hg w18 hbox hb; replace HO0_1 := zA (kG (jD (zPV HO0_1.out) gb195 (Nat.le_of_eq hg.symm)) hb); replace HO1 := zA (kG (jD (zPV HO1.out) gb195 (Nat.le_of_eq hg.symm)) hb); replace HO2 := zA (kG (jD (zPV HO2.out) gb195 (Nat.le_of_eq hg.symm)) hb); have BK195 := zA (hbox); have GW195 := zA (zBH hg HB.out); have GE195 := zA (zBH hg HB.out); replace HB := zA (kQ (zQ HB.out) hb); clear hb hbox hg; obtain ⟨hcz19_0, hcz19_1, hfz19_0, hfz19_1⟩ := zB3 BK195.out) | ((with_reducible refine kS (N := 12) rfl ?_); refine Kd.N_lit (Kd.slice 2 (Kd.int .i64)) _ 24 ?hg (N' := 12) ?hd (xs := ([l1, l2] : List (List Int))) (inner := [.slice A1 l1.length c1, .slice A2 l2.length c2]) (ok := (fun k_ => ((P0_1_ k_ ∨ P1_ k_ ∨ P2_ k_) ∨ w.heap.size ≤ k_) ∧ k_ ≠ gb195)) (okp := (fun k_ => ((P0_1_ k_ ∨ P1_ k_ ∨ P2_ k_) ∨ w.heap.size ≤ k_) ∧ k_ ≠ gb195)) ?hr ?hp (fun _ hk => hk) ((show ∀ k_ : Nat, (_ : Nat) ≤ k_ → (fun k_ => ((P0_1_ k_ ∨ P1_ k_ ∨ P2_ k_) ∨ w.heap.size ≤ k_) ∧ k_ ≠ gb195) k_ from fun k_ hk => ⟨(.inr (Nat.le_trans (kP (zT HB.out GE195.out)) hk)), jE (g := gb195) (o := .cells #[.int .i64 a0_0, .slice A0_1 l0_1.length c0_1] 26 (0, 0)) (zR BK195.out) k_ hk⟩) _ (Nat.le_refl _)) (kW _ _) (Nat.le_refl _) (by simp) ?_; (case hd => rfl); (case hg => rfl); (case hr => first | (go_simp; done) | (go_simp; rfl)); (case hp => exact (Reps.one (show Kd.FK (Kd.slice 2 (Kd.int .i64)) _ _ l1 [.slice A1 l1.length c1] from (zFK (kN (ok' := (fun k_ => ((P0_1_ k_ ∨ P1_ k_ ∨ P2_ k_) ∨ w.heap.size ≤ k_) ∧ k_ ≠ gb195)) (HO1.out) (fun k_ hk => ⟨hk.1, hk.2⟩)))) (Reps.one (show Kd.FK (Kd.slice 2 (Kd.int .i64)) _ _ l2 [.slice A2 l2.length c2] from (zFK (kN (ok' := (fun k_ => ((P0_1_ k_ ∨ P1_ k_ ∨ P2_ k_) ∨ w.heap.size ≤ k_) ∧ k_ ≠ gb195)) (HO2.out) (fun k_ hk => ⟨hk.1, hk.2⟩)))) (Reps.none _ _)))); intro v197 w20 ho21 hb hg_ hnew_; clear hg_ hnew_; (first | rw [← Ny196.out] at ho21 | (simp only [Int.reduceToNat] at ho21; rw [← Ny196.out] at ho21)); replace HO0_1 := zA (kK (zPV HO0_1.out) (Kd.N_base ho21) hb); replace HO1 := zA (kK (zPV HO1.out) (Kd.N_base ho21) hb); replace HO2 := zA (kK (zPV HO2.out) (Kd.N_base ho21) hb); have HO198 := zA (jN ho21 (kP (zT HB.out GE195.out))); replace BK195 := zA (zB1 BK195.out hb); replace HB := zA (kQ (zT HB.out GE195.out) hb); clear hb ho21; obtain ⟨Ao22, co22, eo22⟩ := Kd.N_slice HO198.out; subst eo22) | (refine zO (some 13) Tryd.func53 #[.agg #[.int .i64 a0_0, .slice A0_1 l0_1.length c0_1], .slice Ao22 y196.length co22] ?_; (with_reducible refine (impl_checkWords.calls k a0_0 _ _ l0_1 _ _ y196 t199 _ ?side1 ?side2 ?side3 ?side4 ?side5 A4.out).mono ?_); (case side1 => exact zS (kJ HO0_1.out).2.2); (case side2 => exact (kJ HO0_1.out).2.1); (case side3 => exact zS (Kd.N_reads' HO198.out).2.2); (case side4 => exact (Kd.N_reads' HO198.out).2.1); (case side5 => exact TabW.below HT.out (zT HB.out GE195.out)); rintro e w23 ⟨rfl, hb⟩; refine ⟨_, rfl, ?_⟩; replace HO0_1 := zA (kG (zPV HO0_1.out) hb); replace HO1 := zA (kG (zPV HO1.out) hb); replace HO2 := zA (kG (zPV HO2.out) hb); replace HO198 := zA (kZ (zPN HO198.out) hb); replace BK195 := zA (zB1 BK195.out hb); replace HB := zA (kQ (zT HB.out GE195.out) hb); (try clear hb)))
 go_ret2
 exact ⟨zr, zT HB.out GE195.out⟩

/-- A state of type 98 at block g of W; what its slices lead to came in by w0. -/
def Z98 (w0 W : World) (g : Nat) (f0 : List Int) (f1 : Int) (f2 : Int) : Prop := ∃ A0 c0, W.heap[g]? = some (.cells #[.slice A0 f0.length c0, .int .i64 f1, .int .u64 f2] 98 (0, 0)) ∧ w0.heap.size ≤ g ∧ Kd.C (Kd.int .u8) w0 A0 f0.length f0
theorem Z98.grown {w0 W : World} {g : Nat} {f0 : List Int} {f1 : Int} {f2 : Int} {W1 : World} {row : Option Nat} (h : Z98 w0 W g f0 f1 f2) (hw : W.grownBy W1 row) (hne : some g ≠ row) : Z98 w0 W1 g f0 f1 f2 := by
 obtain ⟨A0, c0, hb, hg, hr0⟩ := h
 exact ⟨A0, c0, blk_grown hb hw hne, hg, hr0⟩
theorem Z98.own_neN {w0 W : World} {g : Nat} {f0 : List Int} {f1 : Int} {f2 : Int} {α : Type} {d : Kd α} {e : Nat} {base : Nat} {ok : Nat → Prop} {v : Value} {xs : List α} (h : Z98 w0 W g f0 f1 f2) (ho : Kd.N d e W base ok v xs) (ht : e ≠ 98) : some g ≠ v.ownBlock := by
 obtain ⟨A0, c0, hb, hg, hr0⟩ := h
 exact Kd.N_ne ho hb ht
theorem Z98.fresh {w0 W : World} {g : Nat} {f0 : List Int} {f1 : Int} {f2 : Int} (h : Z98 w0 W g f0 f1 f2) : ∀ k, W.heap.size ≤ k → k ≠ g := by
 obtain ⟨A0, c0, hb, hg, hr0⟩ := h
 exact jE hb
theorem Z98.kept {w0 W : World} {g : Nat} {f0 : List Int} {f1 : Int} {f2 : Int} {W1 : World} {S : Nat → Prop} (h : Z98 w0 W g f0 f1 f2) (hk : Kept W W1 S) (hne : ¬ S g) : Z98 w0 W1 g f0 f1 f2 := by
 obtain ⟨A0, c0, hb, hg, hr0⟩ := h
 exact ⟨A0, c0, blk_kept hb hk hne, hg, hr0⟩
theorem Z98.below {w0 W : World} {g : Nat} {f0 : List Int} {f1 : Int} {f2 : Int} {W1 : World} (h : Z98 w0 W g f0 f1 f2) (hw : Below W.heap.size W W1) : Z98 w0 W1 g f0 f1 f2 := h.grown (grown_of_below hw none) (by simp)
theorem Z98.alloc {w0 W : World} {g : Nat} {f0 : List Int} {f1 : Int} {f2 : Int} (h : Z98 w0 W g f0 f1 f2) (o : Obj) : Z98 w0 (W.alloc o) g f0 f1 f2 := h.below (zB (kW _ _) o)
theorem Z98.drewN {w0 W : World} {g : Nat} {f0 : List Int} {f1 : Int} {f2 : Int} (h : Z98 w0 W g f0 f1 f2) (m : Nat) : Z98 w0 (W.drewN m) g f0 f1 f2 := h
theorem Z98.drew {w0 W : World} {g : Nat} {f0 : List Int} {f1 : Int} {f2 : Int} (h : Z98 w0 W g f0 f1 f2) : Z98 w0 W.drew g f0 f1 f2 := h
theorem Z98.at_ {w0 W : World} {g : Nat} {f0 : List Int} {f1 : Int} {f2 : Int} {w' : World} {m : Nat} (hq : W.drewN m = w') (h : Z98 w0 W g f0 f1 f2) : Z98 w0 w' g f0 f1 f2 := by subst hq; exact Z98.drewN h m
theorem Z98.apart {w0 W : World} {g : Nat} {f0 : List Int} {f1 : Int} {f2 : Int} {α : Type} {d : Kd α} {e : Nat} {base : Nat} {ok : Nat → Prop} {v : Value} {xs : List α} (h : Z98 w0 W g f0 f1 f2) (ho : d.R e W base ok v xs) (ht : ∀ q, q ∈ e :: d.E → q ≠ 98) : d.R e W base (fun k => ok k ∧ k ≠ g) v xs := by
 obtain ⟨A0, c0, hb, hg, hr0⟩ := h
 exact kD ho hb ht
theorem Z98.own_ne {w0 W : World} {g : Nat} {f0 : List Int} {f1 : Int} {f2 : Int} {α : Type} {d : Kd α} {e : Nat} {base : Nat} {ok : Nat → Prop} {v : Value} {xs : List α} (h : Z98 w0 W g f0 f1 f2) (ho : d.R e W base ok v xs) (ht : e ≠ 98) : some g ≠ v.ownBlock := by
 obtain ⟨A0, c0, hb, hg, hr0⟩ := h
 exact Kd.R_ne ho hb ht
theorem Z98.apartQ {w0 W : World} {g : Nat} {f0 : List Int} {f1 : Int} {f2 : Int} {α : Type} {d : Kd α} {e : Nat} {base : Nat} {ok : Nat → Prop} {v : Value} {xs : List α} (h : Z98 w0 W g f0 f1 f2) (ho : d.Q e W base ok v xs) (ht : ∀ q, q ∈ e :: d.E → q ≠ 98) : d.Q e W base (fun k => ok k ∧ k ≠ g) v xs := by
 obtain ⟨A0, c0, hb, hg, hr0⟩ := h
 exact Kd.Q_types ho hb ht
theorem Z98.own_neQ {w0 W : World} {g : Nat} {f0 : List Int} {f1 : Int} {f2 : Int} {α : Type} {d : Kd α} {e : Nat} {base : Nat} {ok : Nat → Prop} {v : Value} {xs : List α} (h : Z98 w0 W g f0 f1 f2) (ho : d.Q e W base ok v xs) (ht : e ≠ 98) : some g ≠ v.ownBlock := by
 obtain ⟨A0, c0, hb, hg, hr0⟩ := h
 exact Kd.Q_ne ho hb ht
theorem Z98.apartS {w0 W : World} {g : Nat} {f0 : List Int} {f1 : Int} {f2 : Int} {α : Type} {d : Kd α} {e : Nat} {base : Nat} {ok : Nat → Prop} {v : Value} {xs : List α} (h : Z98 w0 W g f0 f1 f2) (ho : d.S e W base ok v xs) (ht : ∀ q, q ∈ e :: d.E → q ≠ 98) : d.S e W base (fun k => ok k ∧ k ≠ g) v xs := by
 obtain ⟨A0, c0, hb, hg, hr0⟩ := h
 exact Kd.S_types ho hb ht
theorem Z98.own_neS {w0 W : World} {g : Nat} {f0 : List Int} {f1 : Int} {f2 : Int} {α : Type} {d : Kd α} {e : Nat} {base : Nat} {ok : Nat → Prop} {v : Value} {xs : List α} (h : Z98 w0 W g f0 f1 f2) (ho : d.S e W base ok v xs) (ht : e ≠ 98) : some g ≠ v.ownBlock := by
 obtain ⟨A0, c0, hb, hg, hr0⟩ := h
 exact Kd.S_ne ho hb ht
theorem Z98.lt {w0 W : World} {g : Nat} {f0 : List Int} {f1 : Int} {f2 : Int} (h : Z98 w0 W g f0 f1 f2) : g < W.heap.size := by
 obtain ⟨A0, c0, hb, hg, hr0⟩ := h
 exact jI hb
theorem Z98.ge {w0 W : World} {g : Nat} {f0 : List Int} {f1 : Int} {f2 : Int} (h : Z98 w0 W g f0 f1 f2) : w0.heap.size ≤ g := by
 obtain ⟨A0, c0, hb, hg, hr0⟩ := h
 exact hg
theorem Z98.ne_blk {w0 W : World} {g : Nat} {f0 : List Int} {f1 : Int} {f2 : Int} {a : Nat} {cs : Array Value} {t : TypeId} {fr : Nat × Nat} (h : Z98 w0 W g f0 f1 f2) (hb2 : W.heap[a]? = some (.cells cs t fr)) (ht : t ≠ 98) : g ≠ a := by
 obtain ⟨A0, c0, hb, hg, hr0⟩ := h
 rintro rfl
 rw [hb] at hb2
 injection hb2 with hb2
 injection hb2 with _ ht2
 exact ht ht2.symm
theorem Z98.far {w0 W : World} {g : Nat} {f0 : List Int} {f1 : Int} {f2 : Int} {p : Addr} (h : Z98 w0 W g f0 f1 f2) (hne : g ≠ p.block) (u : Value) : Z98 w0 (W.setCell p u) g f0 f1 f2 := by
 obtain ⟨A0, c0, hb, hg, hr0⟩ := h
 exact ⟨A0, c0, blk_far hb hne u, hg, hr0⟩
theorem cellS98_0 {W : World} {g : Nat} {A0 : Option Addr} {c0 : Nat} {f0 : List Int} {f1 : Int} {f2 : Int} (h : W.heap[g]? = some (.cells #[.slice A0 f0.length c0, .int .i64 f1, .int .u64 f2] 98 (0, 0))) : W.cell? ⟨g, 0, none⟩ = some (.slice A0 f0.length c0) := (kV h 0).trans rfl
theorem cellS98_1 {W : World} {g : Nat} {A0 : Option Addr} {c0 : Nat} {f0 : List Int} {f1 : Int} {f2 : Int} (h : W.heap[g]? = some (.cells #[.slice A0 f0.length c0, .int .i64 f1, .int .u64 f2] 98 (0, 0))) : W.cell? ⟨g, 1, none⟩ = some (.int .i64 f1) := (kV h 1).trans rfl
theorem Z98.set_1 {w0 W : World} {g : Nat} {f0 : List Int} {f1 : Int} {f2 : Int} (h : Z98 w0 W g f0 f1 f2) (x : Int) : Z98 w0 (W.setCell ⟨g, 1, none⟩ (.int .i64 x)) g f0 x f2 := by
 obtain ⟨A0, c0, hb, hg, hr0⟩ := h
 exact ⟨A0, c0, by simpa using blk_set hb 1 (.int .i64 x), hg, hr0⟩
theorem cellS98_2 {W : World} {g : Nat} {A0 : Option Addr} {c0 : Nat} {f0 : List Int} {f1 : Int} {f2 : Int} (h : W.heap[g]? = some (.cells #[.slice A0 f0.length c0, .int .i64 f1, .int .u64 f2] 98 (0, 0))) : W.cell? ⟨g, 2, none⟩ = some (.int .u64 f2) := (kV h 2).trans rfl
theorem Z98.set_2 {w0 W : World} {g : Nat} {f0 : List Int} {f1 : Int} {f2 : Int} (h : Z98 w0 W g f0 f1 f2) (x : Int) : Z98 w0 (W.setCell ⟨g, 2, none⟩ (.int .u64 x)) g f0 f1 x := by
 obtain ⟨A0, c0, hb, hg, hr0⟩ := h
 exact ⟨A0, c0, by simpa using blk_set hb 2 (.int .u64 x), hg, hr0⟩
theorem Z98.new (w0 W : World) (A0 : Option Addr) (c0 : Nat) (f0 : List Int) (f1 : Int) (f2 : Int) (hB : Below w0.heap.size w0 W) (hr0 : Kd.C (Kd.int .u8) w0 A0 f0.length f0) : Z98 w0 (W.alloc (.cells #[.slice A0 f0.length c0, .int .i64 f1, .int .u64 f2] 98)) W.heap.size f0 f1 f2 := ⟨A0, c0, by simpa using heap_alloc_new W _, hB.size, hr0⟩
theorem Z98.uA {p q : Prop} (h : p) (hh : p → q := by intro h; repeat (first | (with_reducible first | exact h | apply Z98.alloc | apply Z98.drewN | apply Z98.drew | apply Z98.set_1 | apply Z98.set_2) | exact h)) : q := hh h
theorem Z98.uB {p q a : Prop} (h : p) (g : a) (hh : p → a → q := by intro h g; repeat (first | (with_reducible first | exact h | apply Z98.alloc | apply Z98.drewN | apply Z98.drew | apply Z98.set_1 | apply Z98.set_2 | refine Z98.far ?_ g _) | exact h)) : q := hh h g
theorem Z98.uC {p q a b : Prop} (h : p) (g : a) (k : b) (hh : p → a → b → q := by intro h g k; repeat (first | (with_reducible first | exact h | apply Z98.alloc | apply Z98.drewN | apply Z98.drew | apply Z98.set_1 | apply Z98.set_2 | refine Z98.far ?_ g _ | refine Z98.far ?_ k _) | exact h)) : q := hh h g k
theorem Z98.below_keepW {w0 w w1 w2 : World} {g : Nat} (h0 : Below w0.heap.size w0 w) (h1 : Below w.heap.size w w1) (hk : KeepBut w1 w2 g none) (hb : Below w0.heap.size w0 w2) (hg : w.heap.size ≤ g) : Below w.heap.size w w2 := ⟨hb.os.trans h0.os.symm, hb.tape.trans h0.tape.symm, hb.output.trans h0.output.symm, Nat.le_trans h1.size hk.1, fun k hk2 => (hk.2 k (Nat.lt_of_lt_of_le hk2 h1.size) (by omega) (by simp)).trans (h1.block k hk2)⟩


/-! ### spec_l01From: function 44 -/
def spec_l01From.l0 : Nat → List Int → Int → List Int → Int → Int → Option (List Int × Int × Int)
 | 0, _, _, _, _, _ => none
 | k + 1, x0, x4, x205000, x205001, x205002 => if x4 < (x0.length : Int) then (if x4 < 4096 then (if 0 ≤ x4 then (spec_l01From.l0 k x0 (wrap64 (x4 + 1)) x205000 x205001 (IntKind.u64.wrap ((IntKind.u64.wrap ((IntKind.u64.wrap (x205002 * 1099511628211)) + (IntKind.u64.wrap (rd x0 x4)))) + 11))) else (none)) else (some (x205000, x205001, x205002))) else (some (x205000, x205001, x205002))
def spec_l01From.f (k : Nat) (l0 : List Int) : Option (List Int × Int × Int) := spec_l01From.l0 k l0 0 l0 0 (IntKind.u64.wrap (9341 + (IntKind.u64.wrap ((l0.length : Int)))))

def spec_l01From.T5 : Bool × List (List Nat × List Nat) := (true, [([], []), ([], []), ([1], [1]), ([2], [2]), ([3], [3]), ([4], [4]), ([], []), ([], []), ([6, 7], [6, 7]), ([8], [8]), ([9], [9]), ([5, 10], [5, 10]), ([11], [11]), ([0, 0, 1, 2, 3, 4, 5, 6, 7, 8, 9, 10, 11, 12], [0]), ([13, 0, 1, 2, 3, 4, 5, 6, 7, 8, 9, 10, 11, 12], [13]), ([14, 12, 0, 1, 2, 3, 4, 5, 6, 7, 8, 9, 10, 11, 12], [12, 14])])
def spec_l01From.B5 : List Nat := [0, 0, 2, 6, 14, 30, 0, 0, 192, 448, 960, 2046, 4094, 8191, 16383, 32767]
theorem spec_l01From.tab5 : rtab .any (opsOf Tryd.f44 5) = spec_l01From.T5 := by kernel_rfl
theorem spec_l01From.bits5 : waitsOk spec_l01From.T5.2 spec_l01From.B5 = true := by kernel_rfl
set_option maxHeartbeats 8000000 in
set_option maxRecDepth 100000 in
theorem spec_l01From.calls (k : Nat) (A0 : Option Addr) (c0 : Nat) (l0 : List Int) (r1 : List Int) (r2 : Int) (r3 : Int) (w0 w : World) (hB : Below w0.heap.size w0 w) (hr0 : Kd.C (Kd.int .u8) w0 A0 l0.length l0) (hc0 : l0.length ≤ c0) (h : spec_l01From.f k l0 = some (r1, r2, r3)) :
  Calls Tryd.prog 44 #[.slice A0 l0.length c0] w fun e w' => ∃ g_ : Nat, e = .returned (.pointer (some ⟨g_, 0, none⟩)) ∧ Z98 w0 w' g_ r1 r2 r3 ∧ Below w0.heap.size w0 w' ∧ Below w.heap.size w w' ∧ w.heap.size ≤ g_ := by
 have hu98 := Tryd.underlying98
 have HR0 := zA hr0
 have HC0 := zA hc0
 clear hr0 hc0
 have HBW := zA (kW w.heap.size w)
 have HB00 := zA hB
 have HW0 := zA hB.size
 have HB := zA hB
 clear hB
 have H := h
 unfold spec_l01From.f at H
 clear h
 have H' := zA H
 clear H
 go_enter Tryd.func44, Tryd.ntmps44
 go_wp2_with (first | (refine zBE 11 #[.slice A0 l0.length c0, .int .i64 0, .int .u64 (IntKind.u64.wrap (9341 + (IntKind.u64.wrap ((l0.length : Int)))))] 98 ?_; intro gb204 hg w2 hbox hb; replace HB := zA (kQ (zQ HB.out) hb); have BK204 := zA (hbox); have GW204 := zA (zBH hg HBW.out); have GE204 := zA ((Nat.le_trans HW0.out (by rw [hg]; exact (kP (zQ HBW.out)) : w.heap.size ≤ gb204) : w0.heap.size ≤ gb204)); replace HBW := zA (kQ HBW.out hb); clear hb hbox hg))
 go_loopg [4] k (fun kq v4 w' => ∃ (x4_1 : Int) (x205002_1 : Int), v4 = .int .i64 x4_1 ∧ Aside0 (spec_l01From.l0 kq l0 x4_1 l0 0 x205002_1 = some (r1, r2, r3)) ∧ Aside0 (kq ≤ k) ∧ Aside0 (w'.heap[gb204]? = some (.cells #[(.slice A0 l0.length c0), .int .i64 0, .int .u64 x205002_1] 98 (0, 0))) ∧ Aside0 (Below w0.heap.size w0 w') ∧ Aside0 (Below w.heap.size w w'))
 case atStart => exact ⟨(0), (IntKind.u64.wrap (9341 + (IntKind.u64.wrap ((l0.length : Int))))), zs, H', ⟨Nat.le_refl _⟩, ⟨zR BK204.out⟩, ⟨zT HB.out GE204.out⟩, ⟨zT HBW.out GW204.out⟩⟩
 case round =>
  clear H'
  obtain ⟨x4_1, x205002_1, rfl, HA, HK1, BK204, HB, HBW⟩ := hrel
  cases gk with
  | zero => exact absurd HA.out (by simp [spec_l01From.l0])
  | succ k1 =>
   have H := HA.out
   clear HA
   simp only [spec_l01From.l0] at H
   by_cases c3 : x4_1 < (l0.length : Int)
   ·rw [if_pos c3] at H
    have c3b0 : decide (x4_1 < (l0.length : Int)) = true := decide_eq_true c3
    clear c3
    by_cases c4 : x4_1 < 4096
    ·rw [if_pos c4] at H
     have c4b0 : decide (x4_1 < 4096) = true := decide_eq_true c4
     clear c4
     by_cases c5 : 0 ≤ x4_1
     ·rw [if_pos c5] at H
      have c5b0 : decide (0 ≤ x4_1) = true := decide_eq_true c5
      clear c5
      have H' := zA H
      clear H
      try go_wp2
      have n0_ := zA (zK BK204.out)
      have n1_ := zA (zD HB.out)
      have n1w_ := zA (zD HBW.out)
      clear BK204 HB HBW
      have BK204 := n0_
      have HB := n1_
      have HBW := n1w_
      clear n0_ n1_
      have p205 : 0 ≤ (x4_1 : Int) := zd
      have q205 : x4_1 < (l0.length : Int) := zd
      obtain ⟨ad205, e205, hx205_0⟩ := Kd.at_int HR0.out x4_1 p205 q205
      have hw205_0 := hx205_0
      cases e205
      replace hx205_0 := pw_cell_below HB.out hx205_0
      replace p205 := eq_true p205
      replace q205 := eq_true q205
      refine start_ (n := 16) (S := fun w' => w'.cell? ⟨gb204, 0, none⟩ = some (.slice (some ad205) l0.length c0) ∧ w'.cell? ⟨gb204, 1, none⟩ = some (.int .i64 0) ∧ w'.cell? ⟨gb204, 2, none⟩ = some (.int .u64 x205002_1) ∧ w'.cell? (ad205.add (x4_1).toNat) = some (.int .u8 (rd l0 x4_1))) (ds := [15]) #[false, false, false, false, false, false, false, false, false, false, false, false, false, false, false, false] (by kernel_rfl) rfl rfl ⟨(kV BK204.out 0).trans rfl, (kV BK204.out 1).trans rfl, (kV BK204.out 2).trans rfl, (pw_cell_below HB.out hw205_0)⟩ (fun hHeld => ?_); refine with_tabW spec_l01From.tab5 spec_l01From.bits5 (fun HT_ HW_ => ?_)
      generalize wr.drew = w6 at BK204 HB HBW hx205_0 hHeld ⊢
      refine zp 0 (some 22) #[true, false, false, false, false, false, false, false, false, false, false, false, false, false, false, false] HT_.out ?_
      refine zp 1 (some 23) #[true, true, false, false, false, false, false, false, false, false, false, false, false, false, false, false] HT_.out ?_
      refine zp 2 (some 24) #[true, true, true, false, false, false, false, false, false, false, false, false, false, false, false, false] HT_.out ?_
      refine zp 3 (some 25) #[true, true, true, true, false, false, false, false, false, false, false, false, false, false, false, false] HT_.out ?_
      refine zp 6 (some 28) #[true, true, true, true, false, false, true, false, false, false, false, false, false, false, false, false] HT_.out ?_
      refine zp 7 (some 29) #[true, true, true, true, false, false, true, true, false, false, false, false, false, false, false, false] HT_.out ?_
      refine zp 8 (some 30) #[true, true, true, true, false, false, true, true, true, false, false, false, false, false, false, false] HT_.out ?_
      refine zf 4 (some 26) #[true, true, true, true, true, false, true, true, true, false, false, false, false, false, false, false] HT_.out HW_.out hHeld ?_
      refine zp 5 (some 27) #[true, true, true, true, true, true, true, true, true, false, false, false, false, false, false, false] HT_.out ?_
      refine zf 9 (some 31) #[true, true, true, true, true, true, true, true, true, true, false, false, false, false, false, false] HT_.out HW_.out hHeld ?_
      refine zp 10 (some 32) #[true, true, true, true, true, true, true, true, true, true, true, false, false, false, false, false] HT_.out ?_
      refine zp 11 (some 33) #[true, true, true, true, true, true, true, true, true, true, true, true, false, false, false, false] HT_.out ?_
      refine zp 12 (some 34) #[true, true, true, true, true, true, true, true, true, true, true, true, true, false, false, false] HT_.out ?_
      refine zp 13 (some 35) #[true, true, true, true, true, true, true, true, true, true, true, true, true, true, false, false] HT_.out ?_
      refine zp 14 (some 36) #[true, true, true, true, true, true, true, true, true, true, true, true, true, true, true, false] HT_.out ?_
      refine last_ (i := 15) (N := none) #[true, true, true, true, true, true, true, true, true, true, true, true, true, true, true, true] rfl rfl (one_of HT_.out (by kernel_rfl)) (by decide) (fun K hK => ?_)
      have hs7 : w6.cell? ⟨gb204, 2, none⟩ = some (.int .u64 x205002_1) := (kV BK204.out 2).trans rfl
      have hfs7 := jH BK204.out 2
      refine skip_ (w1 := ?_) (by rfl) rfl ?_ ?_
      rotate_left
      ·go_simp
       rfl
      refine hK.out _ _ ?_
      clear hK K
      refine done_ (done_of HT_.out (by kernel_rfl)) ?_
      try go_wp2
      go_roundg k1
      case measure => have := HK1.out; omega
      case rel => exact ⟨(wrap64 (x4_1 + 1)), (IntKind.u64.wrap ((IntKind.u64.wrap ((IntKind.u64.wrap (x205002_1 * 1099511628211)) + (IntKind.u64.wrap (rd l0 x4_1)))) + 11)), zs, H', ⟨by have := HK1.out; omega⟩, ⟨by (with_reducible repeat (first | refine zJ ?_ _ | refine zK ?_ | refine zI ?_ _)); refine blk_put (cs := #[.slice (some ad205) l0.length c0, .int .i64 0, .int .u64 x205002_1]) ?_ 2 _ rfl; (with_reducible repeat (first | refine zJ ?_ _ | refine zK ?_ | refine zI ?_ _)); exact BK204.out⟩, ⟨zT HB.out GE204.out⟩, ⟨zT HBW.out GW204.out⟩⟩
     rw [if_neg c5] at H
     exact absurd H (by simp)
    rw [if_neg c4] at H
    have c4b0 : decide (x4_1 < 4096) = false := decide_eq_false c4
    clear c4
    simp only [Option.some.injEq, Prod.mk.injEq] at H
    obtain ⟨rfl, rfl, rfl⟩ := H
    go_wp2
    go_ret
    exact ⟨_, rfl, (show Z98 w0 _ gb204 l0 0 x205002_1 from ⟨_, _, by (with_reducible repeat (first | refine zJ ?_ _ | refine zK ?_ | refine zI ?_ _)); exact BK204.out, GE204.out, HR0.out⟩), zT HB.out GE204.out, zT HBW.out GW204.out, GW204.out⟩
   rw [if_neg c3] at H
   have c3b0 : decide (x4_1 < (l0.length : Int)) = false := decide_eq_false c3
   clear c3
   simp only [Option.some.injEq, Prod.mk.injEq] at H
   obtain ⟨rfl, rfl, rfl⟩ := H
   go_wp2
   go_ret
   exact ⟨_, rfl, (show Z98 w0 _ gb204 l0 0 x205002_1 from ⟨_, _, by (with_reducible repeat (first | refine zJ ?_ _ | refine zK ?_ | refine zI ?_ _)); exact BK204.out, GE204.out, HR0.out⟩), zT HB.out GE204.out, zT HBW.out GW204.out, GW204.out⟩

/-! ### spec_l01Next: function 51 -/
def spec_l01Next.f (s0_0 : List Int) (s0_1 : Int) (s0_2 : Int) (a1 : Int) : Option (Int × Int × Int) := if a1 < 1 then (some (0, s0_1, s0_2)) else (if s0_1 < (s0_0.length : Int) then (if 0 ≤ s0_1 then (if a1 = 0 then (none) else (some (Int.tmod (wrap64 ((wrap64 (Go.bits .and .u64 ((IntKind.u64.wrap ((IntKind.u64.wrap (s0_2 * 6364136223846793005)) + 1442695040888963407)) / 8589934592) 16777215)) + (wrap64 (rd s0_0 s0_1)))) a1, wrap64 (s0_1 + 1), IntKind.u64.wrap ((IntKind.u64.wrap (s0_2 * 6364136223846793005)) + 1442695040888963407)))) else (none)) else (if a1 = 0 then (none) else (some (Int.tmod (wrap64 (Go.bits .and .u64 ((IntKind.u64.wrap ((IntKind.u64.wrap (s0_2 * 6364136223846793005)) + 1442695040888963407)) / 8589934592) 16777215)) a1, s0_1, IntKind.u64.wrap ((IntKind.u64.wrap (s0_2 * 6364136223846793005)) + 1442695040888963407)))))
set_option maxHeartbeats 8000000 in
set_option maxRecDepth 100000 in
theorem spec_l01Next.calls (g : Nat) (s0_0 : List Int) (s0_1 : Int) (s0_2 : Int) (a1 : Int) (r1 : Int) (r2 : Int) (r3 : Int) (w0 w : World) (hI : Z98 w0 w g s0_0 s0_1 s0_2) (hB : Below w0.heap.size w0 w) (h : spec_l01Next.f s0_0 s0_1 s0_2 a1 = some (r1, r2, r3)) :
  Calls Tryd.prog 51 #[.pointer (some ⟨g, 0, none⟩), .int .i64 a1] w fun e w' => e = .returned (.int .i64 r1) ∧ Z98 w0 w' g s0_0 r2 r3 ∧ Below w0.heap.size w0 w' ∧ KeepBut w w' g none := by
 have HI0 := zA hI
 have HK := zA (KeepBut.refl w g none)
 have HL := zA hB.size
 clear hI
 have HW0 := zA hB.size
 have HB := zA hB
 clear hB
 have H := h
 unfold spec_l01Next.f at H
 clear h
 by_cases c3 : a1 < 1
 ·rw [if_pos c3] at H
  have c3b0 : decide (a1 < 1) = true := decide_eq_true c3
  clear c3
  simp only [Option.some.injEq, Prod.mk.injEq] at H
  obtain ⟨rfl, rfl, rfl⟩ := H
  go_enter Tryd.func51, Tryd.ntmps51
  go_wp2
  repeat (go_quiet (fail); try go_wp2)
  go_ret
  exact ⟨zr, by repeat (first | (with_reducible first | exact HI0.out | apply Z98.alloc | apply Z98.drewN | apply Z98.drew | apply Z98.set_1 | apply Z98.set_2) | exact HI0.out), zT HB.out (Z98.ge HI0.out), by repeat (first | (with_reducible first | exact HK.out | apply KeepBut.set_ | apply keep_drewN | apply keep_drew | apply keep_alloc) | exact HK.out)⟩
 rw [if_neg c3] at H
 have c3b0 : decide (a1 < 1) = false := decide_eq_false c3
 clear c3
 by_cases c4 : s0_1 < (s0_0.length : Int)
 ·rw [if_pos c4] at H
  have c4b0 : decide (s0_1 < (s0_0.length : Int)) = true := decide_eq_true c4
  clear c4
  by_cases c5 : 0 ≤ s0_1
  ·rw [if_pos c5] at H
   have c5b0 : decide (0 ≤ s0_1) = true := decide_eq_true c5
   clear c5
   by_cases c6 : a1 = 0
   ·rw [if_pos c6] at H
    exact absurd H (by simp)
   rw [if_neg c6] at H
   obtain ⟨c6b0, c6b1⟩ := zT2 c6
   simp only [Option.some.injEq, Prod.mk.injEq] at H
   obtain ⟨rfl, rfl, rfl⟩ := H
   obtain ⟨ASz7_0, cSz7_0, HGz7, hgz7, HSz7_0⟩ := HI0.out
   have hcz7_0 := cellS98_0 HGz7
   have hcz7_1 := cellS98_1 HGz7
   have hcz7_2 := cellS98_2 HGz7
   have hfz7_1 := jH HGz7 1
   have hfz7_2 := jH HGz7 2
   clear HGz7 hgz7
   have p206 : 0 ≤ (s0_1 : Int) := zd
   have q206 : s0_1 < (s0_0.length : Int) := zd
   obtain ⟨ad206, e206, hx206_0⟩ := Kd.at_int HSz7_0 s0_1 p206 q206
   cases e206
   have hn206_0 : ad206.block ≠ g := Nat.ne_of_lt (Nat.lt_of_lt_of_le (by have := jG _ _ hx206_0; first | rwa [add_block] at this | exact this) (Z98.ge HI0.out))
   replace hx206_0 := pw_cell_below HB.out hx206_0
   replace hx206_0 := (cell_far (p := ⟨g, 2, none⟩) (by first | (rw [add_block]; exact hn206_0) | (show (Addr.add _ _).block ≠ _; rw [add_block]; exact hn206_0) | exact hn206_0) (.int .u64 (IntKind.u64.wrap ((IntKind.u64.wrap (s0_2 * 6364136223846793005)) + 1442695040888963407)))).trans hx206_0
   (try have hy206_0 := fun (n_ : Nat) => (show (((w.drewN n_).setCell ⟨g, 2, none⟩ (.int .u64 (IntKind.u64.wrap ((IntKind.u64.wrap (s0_2 * 6364136223846793005)) + 1442695040888963407))))).cell? _ = some _ from hx206_0))
   clear hn206_0
   replace p206 := eq_true p206
   replace q206 := eq_true q206
   go_enter Tryd.func51, Tryd.ntmps51
   go_wp2
   repeat (go_quiet (fail); try go_wp2)
   go_ret
   exact ⟨zr, by repeat (first | (with_reducible first | exact HI0.out | apply Z98.alloc | apply Z98.drewN | apply Z98.drew | apply Z98.set_1 | apply Z98.set_2) | exact HI0.out), zT HB.out (Z98.ge HI0.out), by repeat (first | (with_reducible first | exact HK.out | apply KeepBut.set_ | apply keep_drewN | apply keep_drew | apply keep_alloc) | exact HK.out)⟩
  rw [if_neg c5] at H
  exact absurd H (by simp)
 rw [if_neg c4] at H
 have c4b0 : decide (s0_1 < (s0_0.length : Int)) = false := decide_eq_false c4
 clear c4
 by_cases c8 : a1 = 0
 ·rw [if_pos c8] at H
  exact absurd H (by simp)
 rw [if_neg c8] at H
 obtain ⟨c8b0, c8b1⟩ := zT2 c8
 simp only [Option.some.injEq, Prod.mk.injEq] at H
 obtain ⟨rfl, rfl, rfl⟩ := H
 obtain ⟨ASz9_0, cSz9_0, HGz9, hgz9, HSz9_0⟩ := HI0.out
 have hcz9_0 := cellS98_0 HGz9
 have hcz9_1 := cellS98_1 HGz9
 have hcz9_2 := cellS98_2 HGz9
 have hfz9_1 := jH HGz9 1
 have hfz9_2 := jH HGz9 2
 clear HGz9 hgz9
 go_enter Tryd.func51, Tryd.ntmps51
 go_wp2
 repeat (go_quiet (fail); try go_wp2)
 go_ret
 exact ⟨zr, by repeat (first | (with_reducible first | exact HI0.out | apply Z98.alloc | apply Z98.drewN | apply Z98.drew | apply Z98.set_1 | apply Z98.set_2) | exact HI0.out), zT HB.out (Z98.ge HI0.out), by repeat (first | (with_reducible first | exact HK.out | apply KeepBut.set_ | apply keep_drewN | apply keep_drew | apply keep_alloc) | exact HK.out)⟩

/-! ### spec_l01Pick: function 68 -/
def spec_l01Pick.f (s0_0 : List Int) (s0_1 : Int) (s0_2 : Int) (l1 : List Int) : Option (Int × Int × Int) := (spec_l01Next.f s0_0 s0_1 s0_2 (l1.length : Int)).bind fun bt207 => (if 0 ≤ bt207.1 then (if bt207.1 < (l1.length : Int) then (some (rd l1 bt207.1, bt207.2.1, bt207.2.2)) else (none)) else (none))
set_option maxHeartbeats 8000000 in
set_option maxRecDepth 100000 in
theorem spec_l01Pick.calls (g : Nat) (s0_0 : List Int) (s0_1 : Int) (s0_2 : Int) (A1 : Option Addr) (c1 : Nat) (l1 : List Int) (r1 : Int) (r2 : Int) (r3 : Int) (w0 w : World) (hI : Z98 w0 w g s0_0 s0_1 s0_2) (hB : Below w0.heap.size w0 w) (hr1 : Kd.C (Kd.int .i64) w A1 l1.length l1) (hc1 : l1.length ≤ c1) (hf1 : ∀ ad, A1 = some ad → 0 < l1.length → ad.block ≠ g) (h : spec_l01Pick.f s0_0 s0_1 s0_2 l1 = some (r1, r2, r3)) :
  Calls Tryd.prog 68 #[.pointer (some ⟨g, 0, none⟩), .slice A1 l1.length c1] w fun e w' => e = .returned (.int .i64 r1) ∧ Z98 w0 w' g s0_0 r2 r3 ∧ Below w0.heap.size w0 w' ∧ KeepBut w w' g none := by
 have HR1 := zA hr1
 have HC1 := zA hc1
 clear hr1 hc1
 have HI0 := zA hI
 have HK := zA (KeepBut.refl w g none)
 have HL := zA hB.size
 clear hI
 have HW0 := zA hB.size
 have HB := zA hB
 clear hB
 have H := h
 unfold spec_l01Pick.f at H
 clear h
 obtain ⟨⟨t207, t208, t209⟩, A3, H⟩ := zb H
 try dsimp only at H
 by_cases c4 : 0 ≤ t207
 ·rw [if_pos c4] at H
  have c4b0 : decide (0 ≤ t207) = true := decide_eq_true c4
  clear c4
  by_cases c5 : t207 < (l1.length : Int)
  ·rw [if_pos c5] at H
   have c5b0 : decide (t207 < (l1.length : Int)) = true := decide_eq_true c5
   clear c5
   simp only [Option.some.injEq, Prod.mk.injEq] at H
   obtain ⟨rfl, rfl, rfl⟩ := H
   go_enter Tryd.func68, Tryd.ntmps68
   go_wp2_with (first | (refine zO (some 9) Tryd.func51 #[.pointer (some ⟨g, 0, none⟩), .int .i64 (l1.length : Int)] ?_; (with_reducible refine (spec_l01Next.calls g s0_0 s0_1 s0_2 (l1.length : Int) t207 t208 t209 w0 _ ?side1 ?side2 A3.out).mono ?_); (case side1 => exact Z98.uA HI0.out); (case side2 => exact zT HB.out (Z98.ge HI0.out)); rintro e w6 ⟨rfl, hi, hb, hk⟩; refine ⟨_, rfl, ?_⟩; replace HK := zA (kT (yA HK.out) hk (.inl rfl)); replace HB := zA (hb); replace HI0 := zA (hi); (try clear hb); (try clear hk); (try clear hi); have p210 : 0 ≤ (t207 : Int) := zd; have q210 : t207 < (l1.length : Int) := zd; obtain ⟨ad210, e210, hx210_0⟩ := Kd.at_int HR1.out t207 p210 q210; cases e210; replace hx210_0 := keep_cell HK.out hx210_0 (by first | (rw [add_block]; exact hf1 _ rfl (by omega)) | exact hf1 _ rfl (by omega) | exact hf1 ad210 rfl (by omega)); replace p210 := eq_true p210; replace q210 := eq_true q210))
   go_ret
   exact ⟨zr, by repeat (first | (with_reducible first | exact HI0.out | apply Z98.alloc | apply Z98.drewN | apply Z98.drew | apply Z98.set_1 | apply Z98.set_2) | exact HI0.out), zT HB.out (Z98.ge HI0.out), by repeat (first | (with_reducible first | exact HK.out | apply KeepBut.set_ | apply keep_drewN | apply keep_drew | apply keep_alloc) | exact HK.out)⟩
  rw [if_neg c5] at H
  exact absurd H (by simp)
 rw [if_neg c4] at H
 exact absurd H (by simp)

/-! ### spec_l01One: function 71 -/
def spec_l01One.f (a0 : Int) : Option (Int) := if 0 ≤ (IntKind.u64.wrap (a0)) then (some (shl .i64 1 (IntKind.u64.wrap (a0)))) else (none)
set_option maxHeartbeats 8000000 in
set_option maxRecDepth 100000 in
theorem spec_l01One.calls (a0 : Int) (r : Int) (w : World) (h : spec_l01One.f a0 = some r) :
  Calls Tryd.prog 71 #[.int .i64 a0] w fun e w' => e = .returned (.int .i64 r) ∧ Drawn0 w w' := by
 have H := h
 unfold spec_l01One.f at H
 clear h
 obtain ⟨ji2, hji2⟩ : ∃ j_ : Int, (IntKind.u64.wrap (a0)) = j_ := ⟨_, rfl⟩
 replace H : (if 0 ≤ (ji2) then (some (shl .i64 1 (ji2))) else (none)) = some r := by first | (rw [hji2] at H; exact H) | (simp only [hji2] at H ⊢; exact H)
 by_cases c3 : 0 ≤ (ji2)
 ·rw [if_pos c3] at H
  have c3b0 := eq_true c3
  have c3b1 : decide (0 ≤ (ji2)) = true := decide_eq_true c3
  clear c3
  obtain ⟨ji4, hji4⟩ : ∃ j_ : Int, (shl .i64 1 (ji2)) = j_ := ⟨_, rfl⟩
  replace H : (some ji4) = some r := by first | (rw [hji4] at H; exact H) | (simp only [hji4] at H ⊢; exact H)
  have hji4_ : (IntKind.i64.wrap (1 * 2 ^ min (ji2).toNat 64)) = ji4 := hji4
  have hji4z : (ji2) ≤ 64 → (IntKind.i64.wrap (1 * 2 ^ (ji2).toNat)) = ji4 := shl_small hji4
  have hji4u : (IntKind.i64.wrap (2 ^ min (ji2).toNat 64)) = ji4 := by have h_ := hji4_; rw [Int.one_mul] at h_; exact h_
  have hji4v : (ji2) ≤ 64 → (IntKind.i64.wrap (2 ^ (ji2).toNat)) = ji4 := fun hle_ => by have h_ := hji4z hle_; rw [Int.one_mul] at h_; exact h_
  have hji4y : (wrap64 (1 * 2 ^ min (ji2).toNat 64)) = ji4 := (i64_w _).symm.trans hji4_
  have hji4x : (ji2) ≤ 64 → (wrap64 (1 * 2 ^ (ji2).toNat)) = ji4 := fun h_ => (i64_w _).symm.trans (hji4z h_)
  obtain rfl := Option.some.inj H
  go_enter Tryd.func71, Tryd.ntmps71
  go_wp2
  go_ret
  exact ⟨by first | rfl | (simp; done) | (simp only [← hji2, ← hji4] <;> (first | rfl | simp)) | (simp [*]; done), by repeat (first | exact Drawn0.refl _ | apply Drawn0.step)⟩
 rw [if_neg c3] at H
 exact absurd H (by simp)

/-! ### spec_l02Free: function 86 -/
def spec_l02Free.l0 : Nat → Int → Int → Int → List Int → Option (Int × List Int)
 | 0, _, _, _, _ => none
 | k + 1, x0, x4, x216000, x216001 => if x4 < x0 then ((spec_l01One.f x4).bind fun t216 => (if x216001.length < 17592186044416 then (spec_l02Free.l0 k x0 (wrap64 (x4 + 1)) x216000 (x216001 ++ [t216])) else (none))) else (some (x216000, x216001))
def spec_l02Free.f (k : Nat) (a0 : Int) : Option (Int × List Int) := spec_l02Free.l0 k a0 0 a0 (([] : List Int))

def spec_l02Free.T5 : Bool × List (List Nat × List Nat) := (true, [([], []), ([0], [0]), ([], []), ([2], [2]), ([3], [3]), ([1, 4, 3], [1, 4]), ([0, 1, 2, 3, 4, 5], []), ([6, 5, 5, 0, 1, 2, 3, 4, 5], [5, 6])])
def spec_l02Free.B5 : List Nat := [0, 1, 0, 4, 12, 31, 63, 127]
theorem spec_l02Free.tab5 : rtab .any (opsOf Tryd.f86 5) = spec_l02Free.T5 := by kernel_rfl
theorem spec_l02Free.bits5 : waitsOk spec_l02Free.T5.2 spec_l02Free.B5 = true := by kernel_rfl
set_option maxHeartbeats 8000000 in
set_option maxRecDepth 100000 in
theorem spec_l02Free.calls (k : Nat) (a0 : Int) (r1 : Int) (r2 : List Int) (w : World) (h : spec_l02Free.f k a0 = some (r1, r2)) :
  Calls Tryd.prog 86 #[.int .i64 a0] w fun e w' => ∃ v1_ : Value, e = .returned (.agg #[.int .i64 r1, v1_]) ∧ Kd.R (Kd.int .i64) 2 w' w.heap.size (fun _ => True) v1_ r2 ∧ Below w.heap.size w w' := by
 have hu26 := Tryd.underlying26
 have HB := zA (kW w.heap.size w)
 have H := h
 unfold spec_l02Free.f at H
 clear h
 obtain ⟨y212, hy212⟩ : ∃ y_ : List Int, y_ = (([] : List Int)) := ⟨_, rfl⟩
 replace H : (spec_l02Free.l0 k a0 0 a0 y212) = some (r1, r2) := zy hy212 H
 have Ny212 := zA hy212
 clear hy212
 have H' := zA H
 clear H
 go_enter Tryd.func86, Tryd.ntmps86
 go_wp2_with (first | (refine zBE 2 #[.int .i64 0, .slice none 0 0] 26 ?_; intro gb211 hg w2 hbox hb; have BK211 := zA (hbox); have GW211 := zA (zBH hg HB.out); have GE211 := zA (zBH hg HB.out); replace HB := zA (kQ (zQ HB.out) hb); clear hb hbox hg) | ((with_reducible refine kS (N := 6) rfl ?_); refine Kd.R_lit (Kd.int .i64) _ 2 ?hg (N := 6) ?hd (xs := ([] : List Int)) (inner := []) (ok := fun _ => True) (okp := fun _ => True) ?hr ?hp (fun _ hk => hk) trivial (kW _ _) (Nat.le_refl _) (by simp) ?_; (case hd => rfl); (case hg => rfl); (case hr => first | (go_simp; done) | (go_simp; rfl)); (case hp => exact (Reps.none _ _)); intro v213 w3 ho4 hb hg_ hnew_; clear hg_ hnew_; (first | rw [← Ny212.out] at ho4 | (simp only [Int.reduceToNat] at ho4; rw [← Ny212.out] at ho4)); have HO214 := zA (kI ho4 (kP (zT HB.out GE211.out))); replace BK211 := zA (zB1 BK211.out hb); replace HB := zA (kQ (zT HB.out GE211.out) hb); clear hb ho4; obtain ⟨Ao5, co5, eo5⟩ := kM HO214.out; subst eo5) | (refine zBE 3 #[.int .i64 0, .slice none 0 0] 26 ?_; intro gb215 hg w6 hbox hb; replace HO214 := zA (kL (zP HO214.out) hb); have BK215 := zA (hbox); have GW215 := zA (zB6 hg (kP (zT HB.out GE211.out)) : w.heap.size ≤ gb215); have GE215 := zA (zB6 hg (kP (zT HB.out GE211.out)) : w.heap.size ≤ gb215); replace HB := zA (kQ (zT HB.out GE211.out) hb); have NB211_215 := zA (zB4 hg BK211.out : gb211 ≠ gb215); have NB215_211 := zA (zB5 hg BK211.out : gb215 ≠ gb211); replace BK211 := zA (zB1 BK211.out hb); clear hb hbox hg; have hnb7 := NB215_211.out; have hnc7 := NB211_215.out; obtain ⟨hcz8_0, hcz8_1, hfz8_0, hfz8_1⟩ := zB3 BK215.out))
 go_loopg [4] k (fun kq v4 w' => ∃ (x4_1 : Int) (x216001_1 : List Int) (u216001 : Value), v4 = .int .i64 x4_1 ∧ Aside0 (spec_l02Free.l0 kq a0 x4_1 a0 x216001_1 = some (r1, r2)) ∧ Aside0 (kq ≤ k) ∧ Aside0 (Kd.R (Kd.int .i64) 2 w' w.heap.size (fun _ => True) u216001 x216001_1) ∧ Aside0 (w'.heap[gb211]? = some (.cells #[.int .i64 0, (.slice none 0 0)] 26 (0, 0))) ∧ Aside0 (w'.heap[gb215]? = some (.cells #[.int .i64 a0, u216001] 26 (0, 0))) ∧ Aside0 (Below w.heap.size w w'))
 case atStart => exact ⟨(0), (y212), (.slice Ao5 y212.length co5), zs, H', ⟨Nat.le_refl _⟩, ⟨by (with_reducible repeat (first | apply zF | apply zG | apply zH)); exact kA (kY (p := ⟨gb215, 1, none⟩) (kY (p := ⟨gb215, 0, none⟩) (kD HO214.out BK215.out (by decide)) (fun _ hk => hk.2) (.int .i64 a0)) (fun _ hk => hk.2) (.slice Ao5 y212.length co5)) (fun _ hk => trivial)⟩, ⟨by (with_reducible repeat (first | refine zJ ?_ _ | refine zK ?_ | refine zI ?_ _)); refine blk_far ?_ NB211_215.out _; (with_reducible repeat (first | refine zJ ?_ _ | refine zK ?_ | refine zI ?_ _)); refine blk_far ?_ NB211_215.out _; (with_reducible repeat (first | refine zJ ?_ _ | refine zK ?_ | refine zI ?_ _)); exact BK211.out⟩, ⟨by (with_reducible repeat (first | refine zJ ?_ _ | refine zK ?_ | refine zI ?_ _)); refine blk_put (cs := #[.int .i64 a0, .slice none 0 0]) ?_ 1 _ rfl; (with_reducible repeat (first | refine zJ ?_ _ | refine zK ?_ | refine zI ?_ _)); refine blk_put (cs := #[.int .i64 0, .slice none 0 0]) ?_ 0 _ rfl; (with_reducible repeat (first | refine zJ ?_ _ | refine zK ?_ | refine zI ?_ _)); exact BK215.out⟩, ⟨zV HB.out GE211.out GE215.out⟩⟩
 case round =>
  clear H'
  try clear c7
  try clear c8
  try clear hcz8_0
  try clear hcz8_1
  try clear hfz8_0
  try clear hfz8_1
  obtain ⟨x4_1, x216001_1, u216001, rfl, HA, HK1, HO_216001, BK211, BK215, HB⟩ := hrel
  cases gk with
  | zero => exact absurd HA.out (by simp [spec_l02Free.l0])
  | succ k1 =>
   have H := HA.out
   clear HA
   simp only [spec_l02Free.l0] at H
   by_cases c9 : x4_1 < a0
   ·rw [if_pos c9] at H
    have c9b0 : decide (x4_1 < a0) = true := decide_eq_true c9
    clear c9
    obtain ⟨t216, A10, H⟩ := zb H
    try dsimp only at H
    by_cases c11 : x216001_1.length < 17592186044416
    ·rw [if_pos c11] at H
     have LMc11 := zA c11
     clear c11
     obtain ⟨y217, hy217⟩ : ∃ y_ : List Int, y_ = (x216001_1 ++ [t216]) := ⟨_, rfl⟩
     replace H : (spec_l02Free.l0 k1 a0 (wrap64 (x4_1 + 1)) a0 y217) = some (r1, r2) := zy hy217 H
     have Ny217 := zA hy217
     clear hy217
     have H' := zA H
     clear H
     try go_wp2
     replace HO_216001 := zA (zH HO_216001.out)
     replace BK211 := zA (zK BK211.out)
     replace BK215 := zA (zK BK215.out)
     replace HB := zA (zD HB.out)
     refine start_ (n := 8) (S := fun w' => w'.cell? ⟨gb215, 0, none⟩ = some (.int .i64 a0) ∧ w'.cell? ⟨gb215, 1, none⟩ = some (u216001)) (ds := [7]) #[false, false, false, false, false, false, false, false] (by kernel_rfl) rfl rfl ⟨(kV BK215.out 0).trans rfl, (kV BK215.out 1).trans rfl⟩ (fun hHeld => ?_); refine with_tabW spec_l02Free.tab5 spec_l02Free.bits5 (fun HT_ HW_ => ?_)
     generalize wr.drew = w12 at HO_216001 BK211 BK215 HB hHeld ⊢
     refine zp 0 (some 13) #[true, false, false, false, false, false, false, false] HT_.out ?_
     refine zp 2 (some 15) #[true, false, true, false, false, false, false, false] HT_.out ?_
     refine zc 1 (some 14) #[true, true, true, false, false, false, false, false] HT_.out HW_.out hHeld ?_
     refine one_ (i := 3) (N := some 16) #[true, true, true, true, false, false, false, false] rfl rfl (one_of HT_.out (by kernel_rfl)) (by decide) (fun K hK => ?_)
     refine goes_ Tryd.func71 (by kernel_rfl) rfl #[.int .i64 x4_1] (by rfl) rfl rfl zg ?_
     with_reducible refine (spec_l01One.calls x4_1 t216 _ A10.out).mono ?_
     rintro e w' ⟨rfl, ⟨nd, rfl⟩⟩
     refine ⟨_, rfl, ?_⟩
     refine hK.out _ _ ⟨(kV BK215.out 0).trans rfl, (kV BK215.out 1).trans rfl⟩ (fun hHeld => ?_)
     clear hK K
     refine norm_ (a' := ?_) ?_ ?_
     rotate_left
     ·show Act.put _ (some 16) _ = _
      simp only [Act.put, zL, zM, zN, i64_w, i32_w]
      rfl
     refine one_ (i := 4) (N := some 17) #[true, true, true, true, true, false, false, false] rfl rfl (one_of HT_.out (by kernel_rfl)) (by decide) (fun K hK => ?_)
     refine value_ (w1 := ?_) (v := ?_) (by rfl) rfl ?_ ?_
     rotate_left 2
     ·go_simp
      constructor
      ·rfl
      rfl
     refine hK.out _ _ ⟨(kV (zI BK215.out _) 0).trans rfl, (kV (zI BK215.out _) 1).trans rfl⟩ (fun hHeld => ?_)
     clear hK K
     refine norm_ (a' := ?_) ?_ ?_
     rotate_left
     ·show Act.put _ (some 17) _ = _
      simp only [Act.put, zL, zM, zN, i64_w, i32_w]
      rfl
     refine one_ (i := 5) (N := some 18) #[true, true, true, true, true, true, false, false] rfl rfl (one_of HT_.out (by kernel_rfl)) (by decide) (fun K hK => ?_)
     refine Kd.R_append_step (Kd.int .i64) (w0 := w) w.heap.size (by rfl) (.tmp 14) (.tmp 17) 24 2 (.int .i64 0) 8 rfl Tryd.underlying24 info2 rfl (by decide) (by omega) u216001 x216001_1 t216 [.int .i64 t216] (fun _ => True) (fun _ => False) rfl rfl ?aP (fun _ hk => hk.elim) ?aF ?aO ?aB ?aS ?aL ?_
     (case aP => exact rfl)
     (case aB => exact (zV HB.out GE211.out GE215.out))
     (case aF => exact (fun _ _ => trivial))
     (case aO => exact (zP HO_216001.out))
     (case aS => exact (kP (zV HB.out GE211.out GE215.out)))
     (case aL => have := LMc11.out; omega)
     intro v218 w13 ho hb hg hat
     rw [← Ny217.out] at ho
     replace BK211 := zA (blk_grown (g := gb211) (o := .cells #[.int .i64 0, .slice none 0 0] 26 (0, 0)) (zR BK211.out) hg (Kd.R_ne HO_216001.out BK211.out (by decide)))
     replace BK215 := zA (blk_grown (g := gb215) (o := .cells #[.int .i64 a0, u216001] 26 (0, 0)) (zR BK215.out) hg (Kd.R_ne HO_216001.out BK215.out (by decide)))
     replace HB := zA (hb)
     have HO219 := zA (ho)
     clear HO_216001 ho hb hg hat
     obtain ⟨Ao14, co14, eo14⟩ := kM HO219.out
     (first | subst eo14 | (injection eo14 with f1_ f2_ f3_; have f4_ := f1_.symm; have f5_ := f3_.symm; clear f1_ f2_ f3_; subst f4_; subst f5_))
     refine hK.out _ _ ⟨(kV BK215.out 0).trans rfl, (kV BK215.out 1).trans rfl⟩ (fun hHeld => ?_)
     clear hK K
     refine norm_ (a' := ?_) ?_ ?_
     rotate_left
     ·show Act.put _ (some 18) _ = _
      simp only [Act.put, zL, zM, zN, i64_w, i32_w]
      rfl
     refine zp 6 (some 19) #[true, true, true, true, true, true, true, false] HT_.out ?_
     refine last_ (i := 7) (N := none) #[true, true, true, true, true, true, true, true] rfl rfl (one_of HT_.out (by kernel_rfl)) (by decide) (fun K hK => ?_)
     have hs15 : w13.cell? ⟨gb215, 1, none⟩ = some (u216001) := (kV BK215.out 1).trans rfl
     have hfs15 := jH BK215.out 1
     have hns15_0 := NB211_215.out
     have hms15_0 := NB215_211.out
     refine skip_ (w1 := ?_) (by rfl) rfl ?_ ?_
     rotate_left
     ·go_simp
      rfl
     refine hK.out _ _ ?_
     clear hK K
     refine done_ (done_of HT_.out (by kernel_rfl)) ?_
     try go_wp2
     go_roundg k1
     case measure => have := HK1.out; omega
     case rel => exact ⟨(wrap64 (x4_1 + 1)), (y217), (.slice Ao14 y217.length co14), zs, H', ⟨by have := HK1.out; omega⟩, ⟨by (with_reducible repeat (first | apply zF | apply zG | apply zH)); exact kA (kY (p := ⟨gb215, 1, none⟩) (kD HO219.out BK215.out (by decide)) (fun _ hk => hk.2) (.slice Ao14 y217.length co14)) (fun _ hk => trivial)⟩, ⟨by (with_reducible repeat (first | refine zJ ?_ _ | refine zK ?_ | refine zI ?_ _)); refine blk_far ?_ NB211_215.out _; (with_reducible repeat (first | refine zJ ?_ _ | refine zK ?_ | refine zI ?_ _)); exact BK211.out⟩, ⟨by (with_reducible repeat (first | refine zJ ?_ _ | refine zK ?_ | refine zI ?_ _)); refine blk_put (cs := #[.int .i64 a0, u216001]) ?_ 1 _ rfl; (with_reducible repeat (first | refine zJ ?_ _ | refine zK ?_ | refine zI ?_ _)); exact BK215.out⟩, ⟨zV HB.out GE211.out GE215.out⟩⟩
    rw [if_neg c11] at H
    exact absurd H (by simp)
   rw [if_neg c9] at H
   have c9b0 : decide (x4_1 < a0) = false := decide_eq_false c9
   clear c9
   simp only [Option.some.injEq, Prod.mk.injEq] at H
   obtain ⟨rfl, rfl⟩ := H
   have hnb16 := NB215_211.out
   have hnc16 := NB211_215.out
   obtain ⟨hcz17_0, hcz17_1, hfz17_0, hfz17_1⟩ := zB3 BK215.out
   obtain ⟨hcz18_0, hcz18_1, hfz18_0, hfz18_1⟩ := zB3 BK211.out
   obtain ⟨Ao19, co19, eo19⟩ := kM HO_216001.out
   subst eo19
   go_wp2
   refine bodyPost_ret (results_cell_row rfl _ _ gb211 26 #[.int .i64 a0, .slice Ao19 x216001_1.length co19] (0, 0) _ rfl (zRP BK211.out) Tryd.underlying26 rfl (by kernel_rfl)) rfl ?_
   exact ⟨_, zr, by (with_reducible repeat (first | apply zF | apply zG | apply zH)); exact kA (kY (p := ⟨gb211, 1, none⟩) (kY (p := ⟨gb211, 0, none⟩) (kD HO_216001.out BK211.out (by decide)) (fun _ hk => hk.2) (.int .i64 a0)) (fun _ hk => hk.2) (.slice Ao19 x216001_1.length co19)) (fun _ hk => trivial), zV HB.out GE211.out GE215.out⟩

/-! ### spec_l02Join: function 88 -/
def spec_l01One_Bl02Join.f (a0 : Int) : Option (Int) := spec_l01One.f a0
theorem spec_l01One_Bl02Join.calls (a0 : Int) (r : Int) (w : World) (h : spec_l01One_Bl02Join.f a0 = some r) :
 Calls Tryd.prog 71 #[.int .i64 a0] w fun e w' => e = .returned (.int .i64 r) ∧ Below w.heap.size w w' := by
 refine (spec_l01One.calls a0 r w h).mono ?_
 rintro e w' ⟨h1, h2⟩
 exact ⟨h1, Drawn0.below h2⟩
def spec_l02Join.f (a0_0 : Int) (l0_1 : List Int) (a1 : Int) (a2 : Int) : Option (List Int) := if 0 ≤ a1 then (if a1 < (l0_1.length : Int) then ((spec_l01One_Bl02Join.f a2).bind fun t222 => ((some (l0_1.set (a1 : Int).toNat (Go.bits .or .i64 (rd l0_1 a1) t222) : List Int)).bind fun y223 => (if 0 ≤ a2 then (if a2 < (l0_1.length : Int) then ((spec_l01One_Bl02Join.f a1).bind fun t225 => (some (y223.set (a2 : Int).toNat (Go.bits .or .i64 (rd y223 a2) t225)))) else (none)) else (none)))) else (none)) else (none)
def spec_l02Join.T1 : Bool × List (List Nat × List Nat) := (true, [([], []), ([0], [0]), ([], []), ([], []), ([3], [3]), ([], []), ([4, 5], [4, 5]), ([6], [6]), ([], []), ([8], [8]), ([7, 9], [7, 9]), ([1, 2, 0, 1, 2, 3, 4, 5, 6, 7, 8, 9, 10], [1, 2]), ([11, 10, 9, 0, 1, 2, 3, 4, 5, 6, 7, 8, 9, 10], [10, 11])])
def spec_l02Join.B1 : List Nat := [0, 1, 0, 0, 8, 0, 56, 120, 0, 256, 1016, 2047, 4095]
theorem spec_l02Join.tab1 : rtab .any (opsOf Tryd.f88 1) = spec_l02Join.T1 := by kernel_rfl
theorem spec_l02Join.bits1 : waitsOk spec_l02Join.T1.2 spec_l02Join.B1 = true := by kernel_rfl
def spec_l02Join.T2 : Bool × List (List Nat × List Nat) := (true, [([], []), ([0], [0]), ([], []), ([], []), ([3], [3]), ([], []), ([4, 5], [4, 5]), ([6], [6]), ([], []), ([8], [8]), ([7, 9], [7, 9]), ([1, 2, 0, 1, 2, 3, 4, 5, 6, 7, 8, 9, 10], [1, 2]), ([11, 10, 9, 0, 1, 2, 3, 4, 5, 6, 7, 8, 9, 10], [10, 11])])
def spec_l02Join.B2 : List Nat := [0, 1, 0, 0, 8, 0, 56, 120, 0, 256, 1016, 2047, 4095]
theorem spec_l02Join.tab2 : rtab .any (opsOf Tryd.f88 2) = spec_l02Join.T2 := by kernel_rfl
theorem spec_l02Join.bits2 : waitsOk spec_l02Join.T2.2 spec_l02Join.B2 = true := by kernel_rfl
set_option maxHeartbeats 8000000 in
set_option maxRecDepth 100000 in
theorem spec_l02Join.calls (a0_0 : Int) (P0_1_ : Nat → Prop) (u9000_ : Value) (l0_1 : List Int) (a1 : Int) (a2 : Int) (r : List Int) (w0 w : World) (hB : Below w0.heap.size w0 w) (ho0_1 : Kd.R (Kd.int .i64) 2 w w0.heap.size P0_1_ u9000_ l0_1) (h : spec_l02Join.f a0_0 l0_1 a1 a2 = some r) :
  Calls Tryd.prog 88 #[.agg #[.int .i64 a0_0, u9000_], .int .i64 a1, .int .i64 a2] w fun e w' => e = .returned (.tuple #[]) ∧ Kd.R (Kd.int .i64) 2 w' w0.heap.size (fun k_ => (P0_1_ k_ ∨ w.heap.size ≤ k_)) u9000_ r ∧ Below w0.heap.size w0 w' ∧ Kept w w' (fun k_ => P0_1_ k_) := by
 have hu26 := Tryd.underlying26
 have HO0_1 := zA (show Kd.R (Kd.int .i64) 2 w w0.heap.size (fun k_ => (P0_1_ k_ ∨ w.heap.size ≤ k_)) u9000_ l0_1 from kA ho0_1 (fun k_ hk => (.inl hk)))
 have HK := zA (Kept.refl w (fun k_ => P0_1_ k_))
 have HW0 := zA hB.size
 have HB := zA hB
 clear hB
 have H := h
 unfold spec_l02Join.f at H
 clear h
 by_cases c4 : 0 ≤ a1
 ·rw [if_pos c4] at H
  have c4b0 : decide (0 ≤ a1) = true := decide_eq_true c4
  clear c4
  by_cases c5 : a1 < (l0_1.length : Int)
  ·rw [if_pos c5] at H
   have c5b0 : decide (a1 < (l0_1.length : Int)) = true := decide_eq_true c5
   clear c5
   obtain ⟨t222, A6, H⟩ := zb H
   try dsimp only at H
   obtain ⟨y223, hy223⟩ : ∃ y_ : List Int, y_ = (l0_1.set (a1 : Int).toNat (Go.bits .or .i64 (rd l0_1 a1) t222)) := ⟨_, rfl⟩
   replace H : (if 0 ≤ a2 then (if a2 < (l0_1.length : Int) then ((spec_l01One_Bl02Join.f a1).bind fun t225 => (some (y223.set (a2 : Int).toNat (Go.bits .or .i64 (rd y223 a2) t225)))) else (none)) else (none)) = some r := zy hy223 H
   have Ny223 := zA hy223
   clear hy223
   by_cases c8 : 0 ≤ a2
   ·rw [if_pos c8] at H
    have c8b0 : decide (0 ≤ a2) = true := decide_eq_true c8
    clear c8
    by_cases c9 : a2 < (l0_1.length : Int)
    ·rw [if_pos c9] at H
     have c9b0 : decide (a2 < (l0_1.length : Int)) = true := decide_eq_true c9
     clear c9
     obtain ⟨t225, A10, H⟩ := zb H
     try dsimp only at H
     obtain ⟨y226, hy226⟩ : ∃ y_ : List Int, y_ = (y223.set (a2 : Int).toNat (Go.bits .or .i64 (rd y223 a2) t225)) := ⟨_, rfl⟩
     replace H : (some y226) = some r := zy hy226 H
     have Ny226 := zA hy226
     clear hy226
     obtain rfl := Option.some.inj H
     obtain ⟨Ao12, co12, eo12⟩ := kM HO0_1.out
     subst eo12
     go_enter Tryd.func88, Tryd.ntmps88
     try go_wp2_with (first | (refine zBE 3 #[.int .i64 a0_0, .slice Ao12 l0_1.length co12] 26 ?_; intro gb220 hg w13 hbox hb; replace HO0_1 := zA (kL (zP HO0_1.out) hb); have BK220 := zA (hbox); have GW220 := zA (zB6 hg (by first | exact HK.out.1 | exact (show Kept w _ (fun k_ => P0_1_ k_) from by repeat (first | (with_reducible first | exact HK.out | apply Kept.alloc | apply Kept.drewN | apply Kept.drew) | exact HK.out)).1) : w.heap.size ≤ gb220); replace HK := zA (Kept.below (S := (fun k_ => P0_1_ k_)) (by repeat (first | (with_reducible first | exact HK.out | apply Kept.alloc | apply Kept.drewN | apply Kept.drew) | exact HK.out)) hb); have GE220 := zA (zBH hg HB.out); replace HB := zA (kQ (zQ HB.out) hb); clear hb hbox hg))
     replace HO0_1 := zA (zH HO0_1.out)
     replace BK220 := zA (zK BK220.out)
     replace HK := zA (Kept.drew HK.out)
     replace HB := zA (zD HB.out)
     have p221 : 0 ≤ (a1 : Int) := zd
     have q221 : a1 < (l0_1.length : Int) := zd
     obtain ⟨ad221, e221, hx221_0⟩ := Kd.at_int (kB HO0_1.out).2.2 a1 p221 q221
     cases e221
     replace p221 := eq_true p221
     replace q221 := eq_true q221
     refine start_ (n := 13) (S := fun w' => w'.cell? ⟨gb220, 0, none⟩ = some (.int .i64 a0_0) ∧ w'.cell? ⟨gb220, 1, none⟩ = some (.slice (some ad221) l0_1.length co12) ∧ w'.cell? (ad221.add (a1).toNat) = some (.int .i64 (rd l0_1 a1))) (ds := [12]) #[false, false, false, false, false, false, false, false, false, false, false, false, false] (by kernel_rfl) rfl rfl ⟨(kV BK220.out 0).trans rfl, (kV BK220.out 1).trans rfl, hx221_0⟩ (fun hHeld => ?_); refine with_tabW spec_l02Join.tab1 spec_l02Join.bits1 (fun HT_ HW_ => ?_)
     generalize w13.drew = w14 at HO0_1 BK220 HK HB hx221_0 hHeld ⊢
     refine zp 0 (some 6) #[true, false, false, false, false, false, false, false, false, false, false, false, false] HT_.out ?_
     refine zp 2 (some 8) #[true, false, true, false, false, false, false, false, false, false, false, false, false] HT_.out ?_
     refine zp 3 (some 9) #[true, false, true, true, false, false, false, false, false, false, false, false, false] HT_.out ?_
     refine zp 5 (some 11) #[true, false, true, true, false, true, false, false, false, false, false, false, false] HT_.out ?_
     refine zp 8 (some 14) #[true, false, true, true, false, true, false, false, true, false, false, false, false] HT_.out ?_
     refine ze 1 (some 7) #[true, true, true, true, false, true, false, false, true, false, false, false, false] HT_.out HW_.out hHeld ?_
     refine ze 4 (some 10) #[true, true, true, true, true, true, false, false, true, false, false, false, false] HT_.out HW_.out hHeld ?_
     refine zp 6 (some 12) #[true, true, true, true, true, true, true, false, true, false, false, false, false] HT_.out ?_
     refine ze 7 (some 13) #[true, true, true, true, true, true, true, true, true, false, false, false, false] HT_.out HW_.out hHeld ?_
     refine one_ (i := 9) (N := some 15) #[true, true, true, true, true, true, true, true, true, true, false, false, false] rfl rfl (one_of HT_.out (by kernel_rfl)) (by decide) (fun K hK => ?_)
     refine goes_ Tryd.func71 (by kernel_rfl) rfl #[.int .i64 a2] (by rfl) rfl rfl zg ?_
     with_reducible refine (spec_l01One_Bl02Join.calls a2 t222 _ A6.out).mono ?_
     rintro e w15 ⟨rfl, hb⟩
     have HS2_ := (hb.cell (jG _ _ (hHeld.2.2))).trans (hHeld.2.2)
     refine ⟨_, rfl, ?_⟩
     replace HO0_1 := zA (kL (zP HO0_1.out) hb)
     replace BK220 := zA (zB1 BK220.out hb)
     replace HK := zA (Kept.below (S := (fun k_ => P0_1_ k_)) (by repeat (first | (with_reducible first | exact HK.out | apply Kept.alloc | apply Kept.drewN | apply Kept.drew | refine Kept.setCell ?_ (.inr GW220.out) _) | exact HK.out)) hb)
     replace HB := zA (kQ (zT HB.out GE220.out) hb)
     (try clear hb)
     (try clear hb2)
     (try clear hk)
     (try clear hi)
     (try clear hgw)
     have p7 : 0 ≤ (a1 : Int) := zd
     have q7 : (a1 : Int) < ((l0_1.length : Int) : Int) := zd
     obtain ⟨go7, co7, eo7, gb7, gl7, cl7, HG7⟩ := Kd.R_form HO0_1.out (by omega)
     (first | cases eo7 | (injection eo7 with ea_ en_ ec_; (first | subst ea_ | (injection ea_ with ea_; subst ea_)); subst ec_; clear en_))
     have GB7 := zA gb7
     have GG7 := zA HG7
     clear gb7 gl7 HG7
     have HMgo7 := zA (show (P0_1_ go7 ∨ w.heap.size ≤ go7) from (HO0_1.out.1 _ rfl))
     (first | simp only [add_plain] at hx221_0 | skip)
     obtain ⟨hx7_0, hf7_0⟩ := Kd.R_celln 0 HO0_1.out (a1 : Int) p7 q7
     replace p7 := eq_true p7
     replace q7 := eq_true q7
     have HP16 := Kd.R_putn HO0_1.out (a1 : Int) (Go.bits .or .i64 (rd l0_1 a1) t222)
     rw [← Ny223.out] at HP16
     have HQ16 := zA HP16
     clear HP16
     refine hK.out _ _ ⟨(kV BK220.out 0).trans rfl, (kV BK220.out 1).trans rfl, HS2_⟩ (fun hHeld => ?_)
     clear hK K
     refine norm_ (a' := ?_) ?_ ?_
     rotate_left
     ·show Act.put _ (some 15) _ = _
      simp only [Act.put, zL, zM, zN, i64_w, i32_w]
      rfl
     refine zp 10 (some 16) #[true, true, true, true, true, true, true, true, true, true, true, false, false] HT_.out ?_
     refine zp 11 (some 17) #[true, true, true, true, true, true, true, true, true, true, true, true, false] HT_.out ?_
     refine last_ (i := 12) (N := none) #[true, true, true, true, true, true, true, true, true, true, true, true, true] rfl rfl (one_of HT_.out (by kernel_rfl)) (by decide) (fun K hK => ?_)
     refine skip_ (w1 := ?_) (by rfl) rfl ?_ ?_
     rotate_left
     ·go_simp
      rfl
     refine hK.out _ _ ?_
     clear hK K
     refine done_ (done_of HT_.out (by kernel_rfl)) ?_
     try go_wp2
     have n0_ : Aside0 (Kd.R (Kd.int .i64) 2 (w15.setCell ⟨go7, (a1 : Int).toNat, none⟩ (.int .i64 (Go.bits .or .i64 (rd l0_1 a1) t222))) w0.heap.size (fun k_ => (P0_1_ k_ ∨ w.heap.size ≤ k_)) (.slice (some ⟨go7, 0, none⟩) l0_1.length co12) y223) := ⟨zP HQ16.out⟩
     have n1_ : Aside0 ((w15.setCell ⟨go7, (a1 : Int).toNat, none⟩ (.int .i64 (Go.bits .or .i64 (rd l0_1 a1) t222))).heap[gb220]? = some (.cells #[.int .i64 a0_0, .slice (some ⟨go7, 0, none⟩) l0_1.length co12] 26 (0, 0))) := ⟨by (with_reducible repeat (first | refine zJ ?_ _ | refine zK ?_ | refine zI ?_ _)); refine blk_far ?_ (by have h_ := Kd.R_ne HO0_1.out BK220.out (by decide); intro e_; exact h_ (by rw [e_]; rfl)) _; (with_reducible repeat (first | refine zJ ?_ _ | refine zK ?_ | refine zI ?_ _)); exact BK220.out⟩
     have n2_ : Aside0 (Kept w (w15.setCell ⟨go7, (a1 : Int).toNat, none⟩ (.int .i64 (Go.bits .or .i64 (rd l0_1 a1) t222))) (fun k_ => P0_1_ k_)) := ⟨by repeat (first | (with_reducible first | exact HK.out | apply Kept.alloc | apply Kept.drewN | apply Kept.drew | refine Kept.setCell ?_ HMgo7.out _ | refine Kept.setCell ?_ (.inr GW220.out) _) | exact HK.out)⟩
     have n3_ : Aside0 (Below w0.heap.size w0 (w15.setCell ⟨go7, (a1 : Int).toNat, none⟩ (.int .i64 (Go.bits .or .i64 (rd l0_1 a1) t222)))) := ⟨zV HB.out GB7.out GE220.out⟩
     (try clear HO0_1)
     (try clear BK220)
     (try clear HK)
     (try clear HB)
     generalize (w15.setCell ⟨go7, (a1 : Int).toNat, none⟩ (.int .i64 (Go.bits .or .i64 (rd l0_1 a1) t222))) = w17 at n0_ n1_ n2_ n3_ ⊢
     have HO0_1 := n0_
     have BK220 := n1_
     have HK := n2_
     have HB := n3_
     clear n0_ n1_ n2_ n3_
     replace HO0_1 := zA (zH HO0_1.out)
     replace BK220 := zA (zK BK220.out)
     replace HK := zA (Kept.drew HK.out)
     replace HB := zA (zD HB.out)
     have p224 : 0 ≤ (a2 : Int) := zd
     have q224 : a2 < (y223.length : Int) := (by have h_ : (a2 : Int) < ((l0_1.length : Int) : Int) := zd; first | (have e_ := (kB HO0_1.out).1; omega) | simpa only [Ny223.out, List.length_set] using h_)
     have ql224 : ((a2 : Int) < ((l0_1.length : Int) : Int)) = True := eq_true (zd)
     obtain ⟨ad224, e224, hx224_0⟩ := Kd.at_int (kB HO0_1.out).2.2 a2 p224 q224
     obtain rfl : (⟨go7, 0, none⟩ : Addr) = ad224 := (by injection e224)
     (first | simp only [add_plain] at hx224_0 | simp only [add_at] at hx224_0 | simp only [Addr.add, Nat.zero_add] at hx224_0 | skip)
     replace p224 := eq_true p224
     replace q224 := eq_true q224
     refine start_ (n := 13) (S := fun w' => w'.cell? ⟨gb220, 0, none⟩ = some (.int .i64 a0_0) ∧ w'.cell? ⟨gb220, 1, none⟩ = some (.slice (some ⟨go7, 0, none⟩) l0_1.length co12) ∧ w'.cell? ⟨go7, (a2).toNat, none⟩ = some (.int .i64 (rd y223 a2))) (ds := [12]) #[false, false, false, false, false, false, false, false, false, false, false, false, false] (by kernel_rfl) rfl rfl ⟨(kV BK220.out 0).trans rfl, (kV BK220.out 1).trans rfl, hx224_0⟩ (fun hHeld => ?_); refine with_tabW spec_l02Join.tab2 spec_l02Join.bits2 (fun HT_ HW_ => ?_)
     generalize w17.drew = w18 at HO0_1 BK220 HK HB HQ16 hx224_0 hHeld ⊢
     refine zp 0 (some 18) #[true, false, false, false, false, false, false, false, false, false, false, false, false] HT_.out ?_
     refine zp 2 (some 20) #[true, false, true, false, false, false, false, false, false, false, false, false, false] HT_.out ?_
     refine zp 3 (some 21) #[true, false, true, true, false, false, false, false, false, false, false, false, false] HT_.out ?_
     refine zp 5 (some 23) #[true, false, true, true, false, true, false, false, false, false, false, false, false] HT_.out ?_
     refine zp 8 (some 26) #[true, false, true, true, false, true, false, false, true, false, false, false, false] HT_.out ?_
     refine ze 1 (some 19) #[true, true, true, true, false, true, false, false, true, false, false, false, false] HT_.out HW_.out hHeld ?_
     refine ze 4 (some 22) #[true, true, true, true, true, true, false, false, true, false, false, false, false] HT_.out HW_.out hHeld ?_
     refine zp 6 (some 24) #[true, true, true, true, true, true, true, false, true, false, false, false, false] HT_.out ?_
     refine ze 7 (some 25) #[true, true, true, true, true, true, true, true, true, false, false, false, false] HT_.out HW_.out hHeld ?_
     refine one_ (i := 9) (N := some 27) #[true, true, true, true, true, true, true, true, true, true, false, false, false] rfl rfl (one_of HT_.out (by kernel_rfl)) (by decide) (fun K hK => ?_)
     refine goes_ Tryd.func71 (by kernel_rfl) rfl #[.int .i64 a1] (by rfl) rfl rfl zg ?_
     with_reducible refine (spec_l01One_Bl02Join.calls a1 t225 _ A10.out).mono ?_
     rintro e w19 ⟨rfl, hb⟩
     have HS2_ := (hb.cell (jG _ _ (hHeld.2.2))).trans (hHeld.2.2)
     refine ⟨_, rfl, ?_⟩
     replace HO0_1 := zA (kL (zP HO0_1.out) hb)
     replace BK220 := zA (zB1 BK220.out hb)
     replace HK := zA (Kept.below (S := (fun k_ => P0_1_ k_)) (by repeat (first | (with_reducible first | exact HK.out | apply Kept.alloc | apply Kept.drewN | apply Kept.drew | refine Kept.setCell ?_ (.inr GW220.out) _) | exact HK.out)) hb)
     replace HB := zA (kQ (zT HB.out GE220.out) hb)
     (try clear hb)
     (try clear hb2)
     (try clear hk)
     (try clear hi)
     (try clear hgw)
     have p11 : 0 ≤ (a2 : Int) := zd
     have q11 : (a2 : Int) < ((l0_1.length : Int) : Int) := zd
     obtain ⟨hx11_0, hf11_0⟩ := Kd.R_celln 0 HO0_1.out (a2 : Int) p11 q11
     replace p11 := eq_true p11
     replace q11 := eq_true q11
     have HP20 := Kd.R_putn HO0_1.out (a2 : Int) (Go.bits .or .i64 (rd y223 a2) t225)
     rw [← Ny226.out] at HP20
     have HQ20 := zA HP20
     clear HP20
     refine hK.out _ _ ⟨(kV BK220.out 0).trans rfl, (kV BK220.out 1).trans rfl, HS2_⟩ (fun hHeld => ?_)
     clear hK K
     refine norm_ (a' := ?_) ?_ ?_
     rotate_left
     ·show Act.put _ (some 27) _ = _
      simp only [Act.put, zL, zM, zN, i64_w, i32_w]
      rfl
     refine zp 10 (some 28) #[true, true, true, true, true, true, true, true, true, true, true, false, false] HT_.out ?_
     refine zp 11 (some 29) #[true, true, true, true, true, true, true, true, true, true, true, true, false] HT_.out ?_
     refine last_ (i := 12) (N := none) #[true, true, true, true, true, true, true, true, true, true, true, true, true] rfl rfl (one_of HT_.out (by kernel_rfl)) (by decide) (fun K hK => ?_)
     refine skip_ (w1 := ?_) (by rfl) rfl ?_ ?_
     rotate_left
     ·go_simp
      rfl
     refine hK.out _ _ ?_
     clear hK K
     refine done_ (done_of HT_.out (by kernel_rfl)) ?_
     try go_wp2
     first | go_end0 | ((try simp only [Exit.inBlock, Exit.then]); refine bodyPost_ret (results_none rfl _ _ _) rfl ?_)
     exact ⟨zr, zP HQ20.out, zV HB.out GB7.out GE220.out, by repeat (first | (with_reducible first | exact HK.out | apply Kept.alloc | apply Kept.drewN | apply Kept.drew | refine Kept.setCell ?_ HMgo7.out _ | refine Kept.setCell ?_ (.inr GW220.out) _) | exact HK.out)⟩
    rw [if_neg c9] at H
    exact absurd H (by simp)
   rw [if_neg c8] at H
   exact absurd H (by simp)
  rw [if_neg c5] at H
  exact absurd H (by simp)
 rw [if_neg c4] at H
 exact absurd H (by simp)

/-! ### spec_l02Draw: function 83 -/
mutual
def spec_l02Draw.j0 : Nat → Int → Bool → List Int → Int → Int → Option (Int × List Int × Int × Int)
 | 0, _, _, _, _, _ => none
 | k + 1, x1, x16, x1000, x1001, x1002 => if x16 = true then (some (4, (([11, 7, 14, 13] : List Int)), x1001, x1002)) else ((spec_l01Next.f x1000 x1001 x1002 (wrap64 (x1 + 1))).bind fun bt234 => (if bt234.1 < 2 then ((spec_l01Next.f x1000 bt234.2.1 bt234.2.2 (wrap64 (x1 + 1))).bind fun bt237 => (spec_l02Draw.j1 k bt237.1 x1000 bt237.2.1 bt237.2.2)) else (spec_l02Draw.j1 k bt234.1 x1000 bt234.2.1 bt234.2.2)))
def spec_l02Draw.j1 : Nat → Int → List Int → Int → Int → Option (Int × List Int × Int × Int)
 | 0, _, _, _, _ => none
 | k + 1, x5, x1000, x1001, x1002 => (spec_l02Free.f k x5).bind fun bt240 => ((spec_l01Pick.f x1000 x1001 x1002 (([2, 2, 3, 4] : List Int))).bind fun bt247 => (spec_l02Draw.l0 k x5 bt247.1 0 x1000 bt247.2.1 bt247.2.2 bt240.1 bt240.2))
def spec_l02Draw.l0 : Nat → Int → Int → Int → List Int → Int → Int → Int → List Int → Option (Int × List Int × Int × Int)
 | 0, _, _, _, _, _, _, _, _ => none
 | k + 1, x5, x7, x8, x1000, x1001, x1002, x251000, x251001 => if x8 < x5 then (spec_l02Draw.l1 k x5 x7 x8 0 x1000 x1001 x1002 x251000 x251001) else (some (x251000, x251001, x1001, x1002))
def spec_l02Draw.l1 : Nat → Int → Int → Int → Int → List Int → Int → Int → Int → List Int → Option (Int × List Int × Int × Int)
 | 0, _, _, _, _, _, _, _, _, _ => none
 | k + 1, x5, x7, x8, x9, x1000, x1001, x1002, x251000, x251001 => if x9 < x8 then ((spec_l01Next.f x1000 x1001 x1002 x7).bind fun bt251 => (if bt251.1 = 0 then ((spec_l02Join.f x251000 x251001 x8 x9).bind fun t254 => (spec_l02Draw.l1 k x5 x7 x8 (wrap64 (x9 + 1)) x1000 bt251.2.1 bt251.2.2 x251000 t254)) else (spec_l02Draw.l1 k x5 x7 x8 (wrap64 (x9 + 1)) x1000 bt251.2.1 bt251.2.2 x251000 x251001))) else (spec_l02Draw.l0 k x5 x7 (wrap64 (x8 + 1)) x1000 x1001 x1002 x251000 x251001)
end
def spec_l02Draw.f (k : Nat) (s0_0 : List Int) (s0_1 : Int) (s0_2 : Int) (a1 : Int) : Option (Int × List Int × Int × Int) := if a1 ≥ 4 then ((spec_l01Next.f s0_0 s0_1 s0_2 6).bind fun bt228 => (spec_l02Draw.j0 k a1 (bt228.1 == 0) s0_0 bt228.2.1 bt228.2.2)) else (spec_l02Draw.j0 k a1 false s0_0 s0_1 s0_2)

set_option maxHeartbeats 8000000 in
set_option maxRecDepth 100000 in
theorem spec_l02Draw.calls (k : Nat) (g : Nat) (s0_0 : List Int) (s0_1 : Int) (s0_2 : Int) (a1 : Int) (r1 : Int) (r2 : List Int) (r3 : Int) (r4 : Int) (w0 w : World) (hI : Z98 w0 w g s0_0 s0_1 s0_2) (hB : Below w0.heap.size w0 w) (h : spec_l02Draw.f k s0_0 s0_1 s0_2 a1 = some (r1, r2, r3, r4)) :
  Calls Tryd.prog 83 #[.pointer (some ⟨g, 0, none⟩), .int .i64 a1] w fun e w' => ∃ v1_ : Value, e = .returned (.agg #[.int .i64 r1, v1_]) ∧ Kd.R (Kd.int .i64) 2 w' w.heap.size (fun _ => True) v1_ r2 ∧ Z98 w0 w' g s0_0 r3 r4 ∧ Below w0.heap.size w0 w' ∧ KeepBut w w' g none := by
 have hu26 := Tryd.underlying26
 have HI0 := zA hI
 have HK := zA (KeepBut.refl w g none)
 have HL := zA hB.size
 clear hI
 have HW0 := zA hB.size
 have HB := zA hB
 clear hB
 have H := h
 unfold spec_l02Draw.f at H
 clear h
 have HC3 := zA H
 clear H
 go_enter Tryd.func83, Tryd.ntmps83
 go_upto_region 1 with (first | (refine zBE 4 #[.int .i64 0, .slice none 0 0] 26 ?_; intro gb227 hg w4 hbox hb; replace HB := zA (kQ (zT HB.out (Z98.ge HI0.out)) hb); have BK227 := zA (hbox); have GW227 := zA (zB6 hg (kX (w := w) (g := g) (row := none) (yA HK.out)) : w.heap.size ≤ gb227); have GE227 := zA ((Nat.le_trans HW0.out (by rw [hg]; exact (kX (w := w) (g := g) (row := none) (yA HK.out)) : w.heap.size ≤ gb227) : w0.heap.size ≤ gb227)); replace HK := zA (kT (yA HK.out) (kU hb g none) (.inl rfl)); have NB0_227 := zA (zB7 hg (Z98.lt (show Z98 w0 _ g s0_0 s0_1 s0_2 from Z98.uA HI0.out)) : g ≠ gb227); have NB227_0 := zA (zB8 hg (Z98.lt (show Z98 w0 _ g s0_0 s0_1 s0_2 from Z98.uA HI0.out)) : gb227 ≠ g); replace HI0 := zA (Z98.below (Z98.uA HI0.out) hb); clear hb hbox hg))
 (try simp only [Act.put, zL, zM, zN])
 go_cut [16] (fun v16 wc => ∃ (kq : Nat) (x16_2 : Bool) (x1001_2 : Int) (x1002_2 : Int), v16 = .bool x16_2 ∧ Aside0 (spec_l02Draw.j0 kq a1 x16_2 s0_0 x1001_2 x1002_2 = some (r1, r2, r3, r4)) ∧ Aside0 (kq ≤ k) ∧ Aside0 (wc.heap[gb227]? = some (.cells #[.int .i64 0, (.slice none 0 0)] 26 (0, 0))) ∧ Aside0 (Z98 w0 wc g s0_0 x1001_2 x1002_2) ∧ Aside0 (KeepBut w wc g none) ∧ Aside0 (Below w0.heap.size w0 wc))
 case first =>
  have H := HC3.out
  clear HC3
  by_cases c5 : a1 ≥ 4
  ·rw [if_pos c5] at H
   have c5b0 : decide (4 ≤ a1) = true := decide_eq_true c5
   clear c5
   (first | rw [c5b0] | (simp only [i64_w, i32_w]; rw [c5b0]) | skip)
   obtain ⟨⟨t228, t229, t230⟩, A6, H⟩ := zb H
   try dsimp only at H
   have H' := zA H
   clear H
   go_wp2_with (first | (go_at_call 51; (with_reducible refine (spec_l01Next.calls g s0_0 s0_1 s0_2 6 t228 t229 t230 w0 _ ?side1 ?side2 A6.out).mono ?_); (case side1 => exact Z98.uB HI0.out NB0_227.out); (case side2 => exact zV HB.out (Z98.ge HI0.out) GE227.out); rintro e w7 ⟨rfl, hi, hb, hk⟩; replace BK227 := zA (zB2 hk BK227.out NB227_0.out); replace HK := zA (kT (yB HK.out GW227.out) hk (.inl rfl)); replace HB := zA (hb); replace HI0 := zA (hi); (try clear hb); (try clear hk); (try clear hi)))
   go_meet
   case rel => exact ⟨_, ((t228 == 0)), (t229), (t230), zs, H', ⟨by first | omega | exact Nat.le_refl _⟩, ⟨zR BK227.out⟩, ⟨Z98.uB HI0.out NB0_227.out⟩, ⟨yB HK.out GW227.out⟩, ⟨zV HB.out (Z98.ge HI0.out) GE227.out⟩⟩
  rw [if_neg c5] at H
  have c5b0 : decide (4 ≤ a1) = false := decide_eq_false c5
  clear c5
  (first | rw [c5b0] | (simp only [i64_w, i32_w]; rw [c5b0]) | skip)
  have H' := zA H
  clear H
  go_wp2
  go_meet
  case rel => exact ⟨_, (false), (s0_1), (s0_2), zs, H', ⟨by first | omega | exact Nat.le_refl _⟩, ⟨zR BK227.out⟩, ⟨Z98.uB HI0.out NB0_227.out⟩, ⟨yB HK.out GW227.out⟩, ⟨zV HB.out (Z98.ge HI0.out) GE227.out⟩⟩
 case rest =>
  clear HC3
  try clear c5
  obtain ⟨kq, x16_2, x1001_2, x1002_2, rfl, HA, HJ2, BK227, HI0, HK, HB⟩ := hcut
  cases kq with
  | zero => exact absurd HA.out (by simp [spec_l02Draw.j0])
  | succ kj2 =>
   have H := HA.out
   clear HA
   simp only [spec_l02Draw.j0] at H
   by_cases c8 : x16_2 = true
   ·subst c8
    rw [if_pos rfl] at H
    obtain ⟨y231, hy231⟩ : ∃ y_ : List Int, y_ = (([11, 7, 14, 13] : List Int)) := ⟨_, rfl⟩
    replace H : (some (4, y231, x1001_2, x1002_2)) = some (r1, r2, r3, r4) := zy hy231 H
    have Ny231 := zA hy231
    clear hy231
    simp only [Option.some.injEq, Prod.mk.injEq] at H
    obtain ⟨rfl, rfl, rfl, rfl⟩ := H
    go_wp2_with (first | ((with_reducible refine kS (N := 17) rfl ?_); refine Kd.R_lit (Kd.int .i64) _ 2 ?hg (N := 17) ?hd (xs := ([11, 7, 14, 13] : List Int)) (inner := [.int .i64 11, .int .i64 7, .int .i64 14, .int .i64 13]) (ok := fun _ => True) (okp := fun _ => True) ?hr ?hp (fun _ hk => hk) trivial (kW _ _) (Nat.le_refl _) (by simp) ?_; (case hd => rfl); (case hg => rfl); (case hr => first | (go_simp; done) | (go_simp; rfl)); (case hp => exact (Reps.one (show Kd.M (Kd.int .i64) _ _ _ 11 [.int .i64 11] from rfl) (Reps.one (show Kd.M (Kd.int .i64) _ _ _ 7 [.int .i64 7] from rfl) (Reps.one (show Kd.M (Kd.int .i64) _ _ _ 14 [.int .i64 14] from rfl) (Reps.one (show Kd.M (Kd.int .i64) _ _ _ 13 [.int .i64 13] from rfl) (Reps.none _ _)))))); intro v232 w9 ho10 hb hg_ hnew_; clear hg_ hnew_; (first | rw [← Ny231.out] at ho10 | (simp only [Int.reduceToNat] at ho10; rw [← Ny231.out] at ho10)); have HO233 := zA (kI ho10 (kX (w := w) (g := g) (row := none) (yB HK.out GW227.out))); replace BK227 := zA (zB1 BK227.out hb); replace HK := zA (kT (yB HK.out GW227.out) (kU hb g none) (.inl rfl)); replace HB := zA (kQ (zV HB.out (Z98.ge HI0.out) GE227.out) hb); replace HI0 := zA (Z98.below (Z98.uB HI0.out NB0_227.out) hb); clear hb ho10; obtain ⟨Ao11, co11, eo11⟩ := kM HO233.out; subst eo11; have hnb12 := NB227_0.out; have hnc12 := NB0_227.out; obtain ⟨hcz13_0, hcz13_1, hfz13_0, hfz13_1⟩ := zB3 BK227.out))
    refine bodyPost_ret (results_cell_row rfl _ _ gb227 26 #[.int .i64 4, .slice Ao11 y231.length co11] (0, 0) _ rfl (zRP BK227.out) Tryd.underlying26 rfl (by kernel_rfl)) rfl ?_
    exact ⟨_, zr, by (with_reducible repeat (first | apply zF | apply zG | apply zH)); exact kA (kY (p := ⟨gb227, 1, none⟩) (kY (p := ⟨gb227, 0, none⟩) (kD HO233.out BK227.out (by decide)) (fun _ hk => hk.2) (.int .i64 4)) (fun _ hk => hk.2) (.slice Ao11 y231.length co11)) (fun _ hk => trivial), by repeat (first | (with_reducible first | exact HI0.out | apply Z98.alloc | apply Z98.drewN | apply Z98.drew | apply Z98.set_1 | apply Z98.set_2 | refine Z98.far ?_ NB0_227.out _) | exact HI0.out), zV HB.out (Z98.ge HI0.out) GE227.out, by repeat (first | (with_reducible first | exact HK.out | apply KeepBut.set_ | apply keep_drewN | apply keep_drew | apply keep_alloc | refine keep_far ?_ GW227.out _) | exact HK.out)⟩
   replace c8 := Bool.eq_false_iff.mpr c8
   subst c8
   rw [if_neg (show ¬ (false = true) by decide)] at H
   obtain ⟨⟨t234, t235, t236⟩, A14, H⟩ := zb H
   try dsimp only at H
   have HC15 := zA H
   clear H
   go_upto_if 24 with (first | (refine zO (some 22) Tryd.func51 #[.pointer (some ⟨g, 0, none⟩), .int .i64 (wrap64 (a1 + 1))] ?_; (with_reducible refine (spec_l01Next.calls g s0_0 x1001_2 x1002_2 (wrap64 (a1 + 1)) t234 t235 t236 w0 _ ?side1 ?side2 A14.out).mono ?_); (case side1 => exact Z98.uB HI0.out NB0_227.out); (case side2 => exact zV HB.out (Z98.ge HI0.out) GE227.out); rintro e w16 ⟨rfl, hi, hb, hk⟩; refine ⟨_, rfl, ?_⟩; replace BK227 := zA (zB2 hk BK227.out NB227_0.out); replace HK := zA (kT (yB HK.out GW227.out) hk (.inl rfl)); replace HB := zA (hb); replace HI0 := zA (hi); (try clear hb); (try clear hk); (try clear hi)))
   (try simp only [Act.put, zL, zM, zN])
   go_cut [5] (fun v5 wc => ∃ (kq : Nat) (x5_14 : Int) (x1001_14 : Int) (x1002_14 : Int), v5 = .int .i64 x5_14 ∧ Aside0 (spec_l02Draw.j1 kq x5_14 s0_0 x1001_14 x1002_14 = some (r1, r2, r3, r4)) ∧ Aside0 (kq ≤ kj2) ∧ Aside0 (wc.heap[gb227]? = some (.cells #[.int .i64 0, (.slice none 0 0)] 26 (0, 0))) ∧ Aside0 (Z98 w0 wc g s0_0 x1001_14 x1002_14) ∧ Aside0 (KeepBut w wc g none) ∧ Aside0 (Below w0.heap.size w0 wc))
   case first =>
    have H := HC15.out
    clear HC15
    by_cases c17 : t234 < 2
    ·rw [if_pos c17] at H
     have c17b0 : decide (t234 < 2) = true := decide_eq_true c17
     clear c17
     (first | rw [c17b0] | (simp only [i64_w, i32_w]; rw [c17b0]) | skip)
     obtain ⟨⟨t237, t238, t239⟩, A18, H⟩ := zb H
     try dsimp only at H
     have H' := zA H
     clear H
     go_wp2_with (first | (refine zO (some 28) Tryd.func51 #[.pointer (some ⟨g, 0, none⟩), .int .i64 (wrap64 (a1 + 1))] ?_; (with_reducible refine (spec_l01Next.calls g s0_0 t235 t236 (wrap64 (a1 + 1)) t237 t238 t239 w0 _ ?side1 ?side2 A18.out).mono ?_); (case side1 => exact Z98.uB HI0.out NB0_227.out); (case side2 => exact zV HB.out (Z98.ge HI0.out) GE227.out); rintro e w19 ⟨rfl, hi, hb, hk⟩; refine ⟨_, rfl, ?_⟩; replace BK227 := zA (zB2 hk BK227.out NB227_0.out); replace HK := zA (kT (yB HK.out GW227.out) hk (.inl rfl)); replace HB := zA (hb); replace HI0 := zA (hi); (try clear hb); (try clear hk); (try clear hi)))
     go_meet
     case rel => exact ⟨_, (t237), (t238), (t239), zs, H', ⟨by have := HJ2.out; first | omega | exact Nat.le_refl _⟩, ⟨zR BK227.out⟩, ⟨Z98.uB HI0.out NB0_227.out⟩, ⟨yB HK.out GW227.out⟩, ⟨zV HB.out (Z98.ge HI0.out) GE227.out⟩⟩
    rw [if_neg c17] at H
    have c17b0 : decide (t234 < 2) = false := decide_eq_false c17
    clear c17
    (first | rw [c17b0] | (simp only [i64_w, i32_w]; rw [c17b0]) | skip)
    have H' := zA H
    clear H
    go_wp2
    go_meet
    case rel => exact ⟨_, (t234), (t235), (t236), zs, H', ⟨by have := HJ2.out; first | omega | exact Nat.le_refl _⟩, ⟨zR BK227.out⟩, ⟨Z98.uB HI0.out NB0_227.out⟩, ⟨yB HK.out GW227.out⟩, ⟨zV HB.out (Z98.ge HI0.out) GE227.out⟩⟩
   case rest =>
    clear HC15
    try clear c1
    try clear c5
    try clear c8
    try clear c12
    try clear c17
    try clear hcz13_0
    try clear hcz13_1
    try clear hfz13_0
    try clear hfz13_1
    obtain ⟨kq, x5_14, x1001_14, x1002_14, rfl, HA, HJ14, BK227, HI0, HK, HB⟩ := hcut
    cases kq with
    | zero => exact absurd HA.out (by simp [spec_l02Draw.j1])
    | succ kj14 =>
     have H := HA.out
     clear HA
     simp only [spec_l02Draw.j1] at H
     obtain ⟨⟨t240, t241⟩, A20, H⟩ := zb H
     try dsimp only at H
     obtain ⟨y244, hy244⟩ : ∃ y_ : List Int, y_ = (([2, 2, 3, 4] : List Int)) := ⟨_, rfl⟩
     replace H : ((spec_l01Pick.f s0_0 x1001_14 x1002_14 y244).bind fun bt247 => (spec_l02Draw.l0 kj14 x5_14 bt247.1 0 s0_0 bt247.2.1 bt247.2.2 t240 t241)) = some (r1, r2, r3, r4) := zy hy244 H
     have Ny244 := zA hy244
     clear hy244
     obtain ⟨⟨t247, t248, t249⟩, A21, H⟩ := zb H
     try dsimp only at H
     have H' := zA H
     clear H
     go_wp2_with (first | (refine zO (some 30) Tryd.func86 #[.int .i64 x5_14] ?_; (with_reducible refine (spec_l02Free.calls kj14 x5_14 t240 t241 _ A20.out).mono ?_); rintro e w22 ⟨v242, rfl, ho0, hb⟩; refine ⟨_, rfl, ?_⟩; have HO243 := zA (kI ho0 (kX (w := w) (g := g) (row := none) (yB HK.out GW227.out))); replace BK227 := zA (zB1 BK227.out hb); replace HK := zA (kT (yB HK.out GW227.out) (kU hb g none) (.inl rfl)); replace HB := zA (kQ (zV HB.out (Z98.ge HI0.out) GE227.out) hb); replace HI0 := zA (Z98.below (Z98.uB HI0.out NB0_227.out) hb); (try clear hb); (try clear ho0)) | ((with_reducible refine kS (N := 32) rfl ?_); refine Kd.R_lit (Kd.int .i64) _ 2 ?hg (N := 32) ?hd (xs := ([2, 2, 3, 4] : List Int)) (inner := [.int .i64 2, .int .i64 2, .int .i64 3, .int .i64 4]) (ok := fun _ => True) (okp := fun _ => True) ?hr ?hp (fun _ hk => hk) trivial (kW _ _) (Nat.le_refl _) (by simp) ?_; (case hd => rfl); (case hg => rfl); (case hr => first | (go_simp; done) | (go_simp; rfl)); (case hp => exact (Reps.one (show Kd.M (Kd.int .i64) _ _ _ 2 [.int .i64 2] from rfl) (Reps.one (show Kd.M (Kd.int .i64) _ _ _ 2 [.int .i64 2] from rfl) (Reps.one (show Kd.M (Kd.int .i64) _ _ _ 3 [.int .i64 3] from rfl) (Reps.one (show Kd.M (Kd.int .i64) _ _ _ 4 [.int .i64 4] from rfl) (Reps.none _ _)))))); intro v245 w23 ho24 hb hg_ hnew_; clear hg_ hnew_; (first | rw [← Ny244.out] at ho24 | (simp only [Int.reduceToNat] at ho24; rw [← Ny244.out] at ho24)); have HO246 := zA (kI (kF ho24 (kH (zP HO243.out))) (kX (w := w) (g := g) (row := none) (yB HK.out GW227.out))); replace HO243 := zA (kE (zP HO243.out) (kC ho24) hb); replace BK227 := zA (zB1 BK227.out hb); replace HK := zA (kT (yB HK.out GW227.out) (kU hb g none) (.inl rfl)); replace HB := zA (kQ (zV HB.out (Z98.ge HI0.out) GE227.out) hb); replace HI0 := zA (Z98.below (Z98.uB HI0.out NB0_227.out) hb); clear hb ho24; obtain ⟨Ao25, co25, eo25⟩ := kM HO246.out; subst eo25) | (refine zO (some 33) Tryd.func68 #[.pointer (some ⟨g, 0, none⟩), .slice Ao25 y244.length co25] ?_; (with_reducible refine (spec_l01Pick.calls g s0_0 x1001_14 x1002_14 _ _ y244 t247 t248 t249 w0 _ ?side1 ?side2 ?side3 ?side4 ?side5 A21.out).mono ?_); (case side1 => exact Z98.uB HI0.out NB0_227.out); (case side2 => exact zV HB.out (Z98.ge HI0.out) GE227.out); (case side3 => exact zS (kB HO246.out).2.2); (case side4 => exact (kB HO246.out).2.1); (case side5 => exact jJ (Z98.own_ne HI0.out HO246.out (by decide))); rintro e w26 ⟨rfl, hi, hb, hk⟩; refine ⟨_, rfl, ?_⟩; replace BK227 := zA (zB2 hk BK227.out NB227_0.out); replace HO243 := zA (zB9 (Z98.apart (show Z98 w0 _ g s0_0 x1001_14 x1002_14 from Z98.uB HI0.out NB0_227.out) (zP HO243.out) (by decide)) hk); replace HO246 := zA (zB9 (Z98.apart (show Z98 w0 _ g s0_0 x1001_14 x1002_14 from Z98.uB HI0.out NB0_227.out) (zP HO246.out) (by decide)) hk); replace HK := zA (kT (yB HK.out GW227.out) hk (.inl rfl)); replace HB := zA (hb); replace HI0 := zA (hi); (try clear hb); (try clear hk); (try clear hi)) | (refine zBE 6 #[.int .i64 0, .slice none 0 0] 26 ?_; intro gb250 hg w27 hbox hb; replace HO243 := zA (kL (zP HO243.out) hb); replace HO246 := zA (kL (zP HO246.out) hb); replace HB := zA (kQ (zV HB.out (Z98.ge HI0.out) GE227.out) hb); have BK250 := zA (hbox); have GW250 := zA (zB6 hg (kX (w := w) (g := g) (row := none) (yB HK.out GW227.out)) : w.heap.size ≤ gb250); have GE250 := zA ((Nat.le_trans HW0.out (by rw [hg]; exact (kX (w := w) (g := g) (row := none) (yB HK.out GW227.out)) : w.heap.size ≤ gb250) : w0.heap.size ≤ gb250)); replace HK := zA (kT (yB HK.out GW227.out) (kU hb g none) (.inl rfl)); have NB227_250 := zA (zB4 hg BK227.out : gb227 ≠ gb250); have NB250_227 := zA (zB5 hg BK227.out : gb250 ≠ gb227); replace BK227 := zA (zB1 BK227.out hb); have NB0_250 := zA (zB7 hg (Z98.lt (show Z98 w0 _ g s0_0 t248 t249 from Z98.uB HI0.out NB0_227.out)) : g ≠ gb250); have NB250_0 := zA (zB8 hg (Z98.lt (show Z98 w0 _ g s0_0 t248 t249 from Z98.uB HI0.out NB0_227.out)) : gb250 ≠ g); replace HI0 := zA (Z98.below (Z98.uB HI0.out NB0_227.out) hb); clear hb hbox hg; have hnb28 := NB250_227.out; have hnc28 := NB227_250.out; have hnb29 := NB250_0.out; have hnc29 := NB0_250.out; obtain ⟨hcz30_0, hcz30_1, hfz30_0, hfz30_1⟩ := zB3 BK250.out; obtain ⟨Ao31, co31, eo31⟩ := kM HO243.out; subst eo31))
     go_loopg [8] kj14 (fun kq v8 w' => ∃ (x8_3 : Int) (x1001_3 : Int) (x1002_3 : Int) (x251001_3 : List Int) (u251001 : Value), v8 = .int .i64 x8_3 ∧ Aside0 (spec_l02Draw.l0 kq x5_14 t247 x8_3 s0_0 x1001_3 x1002_3 t240 x251001_3 = some (r1, r2, r3, r4)) ∧ Aside0 (kq ≤ kj14) ∧ Aside0 (Kd.R (Kd.int .i64) 2 w' w.heap.size (fun _ => True) u251001 x251001_3) ∧ Aside0 (w'.heap[gb227]? = some (.cells #[.int .i64 0, (.slice none 0 0)] 26 (0, 0))) ∧ Aside0 (w'.heap[gb250]? = some (.cells #[.int .i64 t240, u251001] 26 (0, 0))) ∧ Aside0 (Z98 w0 w' g s0_0 x1001_3 x1002_3) ∧ Aside0 (KeepBut w w' g none) ∧ Aside0 (Below w0.heap.size w0 w'))
     case atStart => exact ⟨(0), (t248), (t249), (t241), (.slice Ao31 t241.length co31), zs, H', ⟨Nat.le_refl _⟩, ⟨by (with_reducible repeat (first | apply zF | apply zG | apply zH)); exact kA (kY (p := ⟨gb250, 1, none⟩) (kY (p := ⟨gb250, 0, none⟩) (kD HO243.out BK250.out (by decide)) (fun _ hk => hk.2) (.int .i64 t240)) (fun _ hk => hk.2) (.slice Ao31 t241.length co31)) (fun _ hk => trivial)⟩, ⟨by (with_reducible repeat (first | refine zJ ?_ _ | refine zK ?_ | refine zI ?_ _)); refine blk_far ?_ NB227_250.out _; (with_reducible repeat (first | refine zJ ?_ _ | refine zK ?_ | refine zI ?_ _)); refine blk_far ?_ NB227_250.out _; (with_reducible repeat (first | refine zJ ?_ _ | refine zK ?_ | refine zI ?_ _)); exact BK227.out⟩, ⟨by (with_reducible repeat (first | refine zJ ?_ _ | refine zK ?_ | refine zI ?_ _)); refine blk_put (cs := #[.int .i64 t240, .slice none 0 0]) ?_ 1 _ rfl; (with_reducible repeat (first | refine zJ ?_ _ | refine zK ?_ | refine zI ?_ _)); refine blk_put (cs := #[.int .i64 0, .slice none 0 0]) ?_ 0 _ rfl; (with_reducible repeat (first | refine zJ ?_ _ | refine zK ?_ | refine zI ?_ _)); exact BK250.out⟩, ⟨Z98.uC HI0.out NB0_227.out NB0_250.out⟩, ⟨yC HK.out GW227.out GW250.out⟩, ⟨zW HB.out (Z98.ge HI0.out) GE227.out GE250.out⟩⟩
     case round =>
      clear H'
      try clear c1
      try clear c2
      try clear c5
      try clear c6
      try clear c8
      try clear c12
      try clear c17
      try clear c28
      try clear c29
      try clear hcz13_0
      try clear hcz13_1
      try clear hcz30_0
      try clear hcz30_1
      try clear hfz13_0
      try clear hfz13_1
      try clear hfz30_0
      try clear hfz30_1
      obtain ⟨x8_3, x1001_3, x1002_3, x251001_3, u251001, rfl, HA, HK3, HO_251001, BK227, BK250, HI0, HK, HB⟩ := hrel
      cases gk with
      | zero => exact absurd HA.out (by simp [spec_l02Draw.l0])
      | succ k3 =>
       have H := HA.out
       clear HA
       simp only [spec_l02Draw.l0] at H
       by_cases c32 : x8_3 < x5_14
       ·rw [if_pos c32] at H
        have c32b0 : decide (x8_3 < x5_14) = true := decide_eq_true c32
        clear c32
        have H' := zA H
        clear H
        go_wp2
        go_loopg [9] k3 (fun kq v9 w' => ∃ (x9_4 : Int) (x1001_4 : Int) (x1002_4 : Int) (x251001_4 : List Int) (u251001 : Value), v9 = .int .i64 x9_4 ∧ Aside0 (spec_l02Draw.l1 kq x5_14 t247 x8_3 x9_4 s0_0 x1001_4 x1002_4 t240 x251001_4 = some (r1, r2, r3, r4)) ∧ Aside0 (kq ≤ k3) ∧ Aside0 (Kd.R (Kd.int .i64) 2 w' w.heap.size (fun _ => True) u251001 x251001_4) ∧ Aside0 (w'.heap[gb227]? = some (.cells #[.int .i64 0, (.slice none 0 0)] 26 (0, 0))) ∧ Aside0 (w'.heap[gb250]? = some (.cells #[.int .i64 t240, u251001] 26 (0, 0))) ∧ Aside0 (Z98 w0 w' g s0_0 x1001_4 x1002_4) ∧ Aside0 (KeepBut w w' g none) ∧ Aside0 (Below w0.heap.size w0 w'))
        case atStart => exact ⟨(0), (x1001_3), (x1002_3), (x251001_3), (u251001), zs, H', ⟨Nat.le_refl _⟩, ⟨zP HO_251001.out⟩, ⟨zR BK227.out⟩, ⟨zR BK250.out⟩, ⟨Z98.uC HI0.out NB0_227.out NB0_250.out⟩, ⟨yC HK.out GW227.out GW250.out⟩, ⟨zW HB.out (Z98.ge HI0.out) GE227.out GE250.out⟩⟩
        case round =>
         clear H'
         try clear c1
         try clear c2
         try clear c3
         try clear c5
         try clear c6
         try clear c8
         try clear c12
         try clear c17
         try clear c28
         try clear c29
         try clear c32
         try clear hcz13_0
         try clear hcz13_1
         try clear hcz30_0
         try clear hcz30_1
         try clear hfz13_0
         try clear hfz13_1
         try clear hfz30_0
         try clear hfz30_1
         obtain ⟨x9_4, x1001_4, x1002_4, x251001_4, u251001, rfl, HA, HK4, HO_251001, BK227, BK250, HI0, HK, HB⟩ := hrel
         cases gk with
         | zero => exact absurd HA.out (by simp [spec_l02Draw.l1])
         | succ k4 =>
          have H := HA.out
          clear HA
          simp only [spec_l02Draw.l1] at H
          by_cases c33 : x9_4 < x8_3
          ·rw [if_pos c33] at H
           have c33b0 : decide (x9_4 < x8_3) = true := decide_eq_true c33
           clear c33
           obtain ⟨⟨t251, t252, t253⟩, A34, H⟩ := zb H
           try dsimp only at H
           by_cases c35 : t251 = 0
           ·rw [if_pos c35] at H
            obtain ⟨c35b0, c35b1⟩ := zT1 c35
            clear c35
            obtain ⟨t254, A36, H⟩ := zb H
            try dsimp only at H
            have H' := zA H
            clear H
            go_wp2_with (first | (refine zO (some 46) Tryd.func51 #[.pointer (some ⟨g, 0, none⟩), .int .i64 t247] ?_; (with_reducible refine (spec_l01Next.calls g s0_0 x1001_4 x1002_4 t247 t251 t252 t253 w0 _ ?side1 ?side2 A34.out).mono ?_); (case side1 => exact Z98.uC HI0.out NB0_227.out NB0_250.out); (case side2 => exact zW HB.out (Z98.ge HI0.out) GE227.out GE250.out); rintro e w37 ⟨rfl, hi, hb, hk⟩; refine ⟨_, rfl, ?_⟩; replace HO_251001 := zA (zB9 (Z98.apart (show Z98 w0 _ g s0_0 x1001_4 x1002_4 from Z98.uC HI0.out NB0_227.out NB0_250.out) (zP HO_251001.out) (by decide)) hk); replace BK227 := zA (zB2 hk BK227.out NB227_0.out); replace BK250 := zA (zB2 hk BK250.out NB250_0.out); replace HK := zA (kT (yC HK.out GW227.out GW250.out) hk (.inl rfl)); replace HB := zA (hb); replace HI0 := zA (hi); (try clear hb); (try clear hk); (try clear hi); have hnb38 := NB250_227.out; have hnc38 := NB227_250.out; have hnb39 := NB250_0.out; have hnc39 := NB0_250.out; obtain ⟨hcz40_0, hcz40_1, hfz40_0, hfz40_1⟩ := zB3 BK250.out; obtain ⟨Ao41, co41, eo41⟩ := kM HO_251001.out; subst eo41) | (refine zO (some 51) Tryd.func88 #[.agg #[.int .i64 t240, .slice Ao41 x251001_4.length co41], .int .i64 x8_3, .int .i64 x9_4] ?_; (with_reducible refine (spec_l02Join.calls t240 (fun k_ => some k_ = (.slice Ao41 x251001_4.length co41 : Value).ownBlock) (.slice Ao41 x251001_4.length co41) x251001_4 x8_3 x9_4 t254 w0 _ ?side1 ?side2 A36.out).mono ?_); (case side1 => exact zW HB.out (Z98.ge HI0.out) GE227.out GE250.out); (case side2 => exact kI (jK rfl HO_251001.out) HL.out); rintro e w42 ⟨rfl, hy0, hb, hkp⟩; refine ⟨_, rfl, ?_⟩; have n0_ := zA (Kd.R_reok rfl (Kd.R_raise (d := (Kd.int .i64)) (b := w0.heap.size) (b' := w.heap.size) (fun _ _ _ _ h_ => h_) hy0 (fun k_ e_ => Or.elim (hy0.1 k_ e_) (fun hs_ => (fun e_ => kC HO_251001.out k_ e_.symm) hs_) (fun hn_ => Nat.le_trans (kX (w := w) (g := g) (row := none) (yC HK.out GW227.out GW250.out)) hn_))) (fun k_ e_ => HO_251001.out.1 k_ e_)); have n1_ := zA (blk_kept (zR BK227.out) hkp (fun hs_ => (fun e_ => (Kd.R_ne HO_251001.out BK227.out (by decide)) e_) hs_)); have n2_ := zA (blk_kept (zR BK250.out) hkp (fun hs_ => (fun e_ => (Kd.R_ne HO_251001.out BK250.out (by decide)) e_) hs_)); have n3_ := zA (Z98.kept (Z98.uC HI0.out NB0_227.out NB0_250.out) hkp (fun hs_ => (fun e_ => (Z98.own_ne HI0.out HO_251001.out (by decide)) e_) hs_)); have n4_ := zA (Kept.keepG (yC HK.out GW227.out GW250.out) hkp (fun k_ hs_ => (fun e_ => .inr (kC HO_251001.out k_ e_.symm)) hs_)); have n5_ := zA (hb); clear HO_251001; clear BK227; clear BK250; clear HI0; clear HK; clear HB; have HO_251001 := n0_; have BK227 := n1_; have BK250 := n2_; have HI0 := n3_; have HK := n4_; have HB := n5_; clear n0_ n1_ n2_ n3_ n4_ n5_; (try clear hb); (try clear hkp); (try clear hy0)))
            go_roundg k4
            case measure => have := HJ2.out; have := HJ14.out; have := HK3.out; have := HK4.out; omega
            case rel => exact ⟨(wrap64 (x9_4 + 1)), (t252), (t253), (t254), (.slice Ao41 x251001_4.length co41), zs, H', ⟨by have := HJ2.out; have := HJ14.out; have := HK3.out; have := HK4.out; omega⟩, ⟨zP HO_251001.out⟩, ⟨zR BK227.out⟩, ⟨zR BK250.out⟩, ⟨Z98.uC HI0.out NB0_227.out NB0_250.out⟩, ⟨yC HK.out GW227.out GW250.out⟩, ⟨zW HB.out (Z98.ge HI0.out) GE227.out GE250.out⟩⟩
           rw [if_neg c35] at H
           obtain ⟨c35b0, c35b1⟩ := zT2 c35
           have H' := zA H
           clear H
           go_wp2_with (first | (refine zO (some 46) Tryd.func51 #[.pointer (some ⟨g, 0, none⟩), .int .i64 t247] ?_; (with_reducible refine (spec_l01Next.calls g s0_0 x1001_4 x1002_4 t247 t251 t252 t253 w0 _ ?side1 ?side2 A34.out).mono ?_); (case side1 => exact Z98.uC HI0.out NB0_227.out NB0_250.out); (case side2 => exact zW HB.out (Z98.ge HI0.out) GE227.out GE250.out); rintro e w43 ⟨rfl, hi, hb, hk⟩; refine ⟨_, rfl, ?_⟩; replace HO_251001 := zA (zB9 (Z98.apart (show Z98 w0 _ g s0_0 x1001_4 x1002_4 from Z98.uC HI0.out NB0_227.out NB0_250.out) (zP HO_251001.out) (by decide)) hk); replace BK227 := zA (zB2 hk BK227.out NB227_0.out); replace BK250 := zA (zB2 hk BK250.out NB250_0.out); replace HK := zA (kT (yC HK.out GW227.out GW250.out) hk (.inl rfl)); replace HB := zA (hb); replace HI0 := zA (hi); (try clear hb); (try clear hk); (try clear hi)))
           go_roundg k4
           case measure => have := HJ2.out; have := HJ14.out; have := HK3.out; have := HK4.out; omega
           case rel => exact ⟨(wrap64 (x9_4 + 1)), (t252), (t253), (x251001_4), (u251001), zs, H', ⟨by have := HJ2.out; have := HJ14.out; have := HK3.out; have := HK4.out; omega⟩, ⟨zP HO_251001.out⟩, ⟨zR BK227.out⟩, ⟨zR BK250.out⟩, ⟨Z98.uC HI0.out NB0_227.out NB0_250.out⟩, ⟨yC HK.out GW227.out GW250.out⟩, ⟨zW HB.out (Z98.ge HI0.out) GE227.out GE250.out⟩⟩
          rw [if_neg c33] at H
          have c33b0 : decide (x9_4 < x8_3) = false := decide_eq_false c33
          clear c33
          have H' := zA H
          clear H
          go_wp2
          go_roundg k4
          case measure => have := HJ2.out; have := HJ14.out; have := HK3.out; have := HK4.out; omega
          case rel => exact ⟨(wrap64 (x8_3 + 1)), (x1001_4), (x1002_4), (x251001_4), (u251001), zs, H', ⟨by have := HJ2.out; have := HJ14.out; have := HK3.out; have := HK4.out; omega⟩, ⟨zP HO_251001.out⟩, ⟨zR BK227.out⟩, ⟨zR BK250.out⟩, ⟨Z98.uC HI0.out NB0_227.out NB0_250.out⟩, ⟨yC HK.out GW227.out GW250.out⟩, ⟨zW HB.out (Z98.ge HI0.out) GE227.out GE250.out⟩⟩
       rw [if_neg c32] at H
       have c32b0 : decide (x8_3 < x5_14) = false := decide_eq_false c32
       clear c32
       simp only [Option.some.injEq, Prod.mk.injEq] at H
       obtain ⟨rfl, rfl, rfl, rfl⟩ := H
       have hnb44 := NB250_227.out
       have hnc44 := NB227_250.out
       have hnb45 := NB250_0.out
       have hnc45 := NB0_250.out
       obtain ⟨hcz46_0, hcz46_1, hfz46_0, hfz46_1⟩ := zB3 BK250.out
       have hnb47 := NB227_0.out
       have hnc47 := NB0_227.out
       obtain ⟨hcz48_0, hcz48_1, hfz48_0, hfz48_1⟩ := zB3 BK227.out
       obtain ⟨Ao49, co49, eo49⟩ := kM HO_251001.out
       subst eo49
       go_wp2
       refine bodyPost_ret (results_cell_row rfl _ _ gb227 26 #[.int .i64 t240, .slice Ao49 x251001_3.length co49] (0, 0) _ rfl (zRP BK227.out) Tryd.underlying26 rfl (by kernel_rfl)) rfl ?_
       exact ⟨_, zr, by (with_reducible repeat (first | apply zF | apply zG | apply zH)); exact kA (kY (p := ⟨gb227, 1, none⟩) (kY (p := ⟨gb227, 0, none⟩) (kD HO_251001.out BK227.out (by decide)) (fun _ hk => hk.2) (.int .i64 t240)) (fun _ hk => hk.2) (.slice Ao49 x251001_3.length co49)) (fun _ hk => trivial), by repeat (first | (with_reducible first | exact HI0.out | apply Z98.alloc | apply Z98.drewN | apply Z98.drew | apply Z98.set_1 | apply Z98.set_2 | refine Z98.far ?_ NB0_227.out _ | refine Z98.far ?_ NB0_250.out _) | exact HI0.out), zW HB.out (Z98.ge HI0.out) GE227.out GE250.out, by repeat (first | (with_reducible first | exact HK.out | apply KeepBut.set_ | apply keep_drewN | apply keep_drew | apply keep_alloc | refine keep_far ?_ GW227.out _ | refine keep_far ?_ GW250.out _) | exact HK.out)⟩

end Go.Proofs.YtcboobfmenonhaaDoor.PAll
