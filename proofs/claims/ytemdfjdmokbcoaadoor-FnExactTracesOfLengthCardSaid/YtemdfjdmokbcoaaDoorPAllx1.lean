-- Printed by a program of the session (wip/tools/pgen.py) out of the translation. Not trusted: Lean checks it.
import Derived.Test.YtemdfjdmokbcoaaDoorPAllx0
namespace Go.Proofs.YtemdfjdmokbcoaaDoor.PAll
open Go.RowKit Go.Proofs.YtemdfjdmokbcoaaDoor.T Go.Proofs.YtemdfjdmokbcoaaDoorW.PrintWords Go.Proofs.YtemdfjdmokbcoaaDoorW.PrintLast Go.Proofs.YtemdfjdmokbcoaaDoorW.PrintMore
attribute [local go_sem] max2_int min2_int max_two min_two max_three min_three max_four min_four   -- for this text's walks alone
set_option linter.unusedVariables false
set_option linter.unusedSimpArgs false

/-! ### laws_szInt64S: function 22 -/
def laws_szInt64S.f (l0 : List Int) (a1 : Int) : Option (Int) := if (wrap64 (a1 - (l0.length : Int))) < 0 then (some (-1)) else (some (wrap64 (a1 - (l0.length : Int))))
set_option maxHeartbeats 8000000 in
set_option maxRecDepth 100000 in
theorem laws_szInt64S.calls (A0 : Option Addr) (c0 : Nat) (l0 : List Int) (a1 : Int) (r : Int) (w : World) (hr0 : Kd.C (Kd.int .i64) w A0 l0.length l0) (hc0 : l0.length ≤ c0) (h : laws_szInt64S.f l0 a1 = some r) :
  Calls Tryd.prog 22 #[.slice A0 l0.length c0, .int .i64 a1] w fun e w' => e = .returned (.int .i64 r) ∧ Drawn0 w w' := by
 have HR0 := zA hr0
 have HC0 := zA hc0
 clear hr0 hc0
 have H := h
 unfold laws_szInt64S.f at H
 clear h
 by_cases c3 : (wrap64 (a1 - (l0.length : Int))) < 0
 ·rw [if_pos c3] at H
  have c3b0 : decide ((wrap64 (a1 - (l0.length : Int))) < 0) = true := decide_eq_true c3
  clear c3
  obtain rfl := Option.some.inj H
  go_enter Tryd.func22, Tryd.ntmps22
  go_wp2
  go_ret
  exact ⟨zs, by repeat (first | exact Drawn0.refl _ | apply Drawn0.step)⟩
 rw [if_neg c3] at H
 have c3b0 : decide ((wrap64 (a1 - (l0.length : Int))) < 0) = false := decide_eq_false c3
 clear c3
 obtain rfl := Option.some.inj H
 go_enter Tryd.func22, Tryd.ntmps22
 go_wp2
 go_ret
 exact ⟨zs, by repeat (first | exact Drawn0.refl _ | apply Drawn0.step)⟩

/-! ### laws_szAlphabet: function 6 -/
def laws_szAlphabet.f (a0_0 : Int) (l0_1 : List Int) (a1 : Int) : Option (Int) := (laws_szInt64S.f l0_1 a1).bind fun t102 => (if t102 < 0 then (some (-1)) else (some t102))
set_option maxHeartbeats 8000000 in
set_option maxRecDepth 100000 in
theorem laws_szAlphabet.calls (a0_0 : Int) (A0_1 : Option Addr) (c0_1 : Nat) (l0_1 : List Int) (a1 : Int) (r : Int) (w : World) (hr0_1 : Kd.C (Kd.int .i64) w A0_1 l0_1.length l0_1) (hc0_1 : l0_1.length ≤ c0_1) (h : laws_szAlphabet.f a0_0 l0_1 a1 = some r) :
  Calls Tryd.prog 6 #[.agg #[.int .i64 a0_0, .slice A0_1 l0_1.length c0_1], .int .i64 a1] w fun e w' => e = .returned (.int .i64 r) ∧ Below w.heap.size w w' := by
 have hu24 := Tryd.underlying24
 have HR0_1 := zA hr0_1
 have HC0_1 := zA hc0_1
 clear hr0_1 hc0_1
 have HB := zA (kW w.heap.size w)
 have H := h
 unfold laws_szAlphabet.f at H
 clear h
 obtain ⟨t102, A3, H⟩ := zb H
 try dsimp only at H
 by_cases c4 : t102 < 0
 ·rw [if_pos c4] at H
  have c4b0 : decide (t102 < 0) = true := decide_eq_true c4
  clear c4
  obtain rfl := Option.some.inj H
  go_enter Tryd.func6, Tryd.ntmps6
  go_wp2_with (first | (refine zBE 2 #[.int .i64 a0_0, .slice A0_1 l0_1.length c0_1] 24 ?_; intro gb101 hg w5 hbox hb; have BK101 := zA (hbox); have GW101 := zA (zBH hg HB.out); have GE101 := zA (zBH hg HB.out); replace HB := zA (kQ (zQ HB.out) hb); clear hb hbox hg; obtain ⟨hcz6_0, hcz6_1, hfz6_0, hfz6_1⟩ := zB3 BK101.out) | (refine zO (some 8) Tryd.func22 #[.slice A0_1 l0_1.length c0_1, .int .i64 a1] ?_; (with_reducible refine (laws_szInt64S.calls _ _ l0_1 a1 t102 _ ?side1 ?side2 A3.out).mono ?_); (case side1 => exact zS (kO HR0_1.out HB.out)); (case side2 => exact HC0_1.out); rintro e w' ⟨rfl, ⟨nd, rfl⟩⟩; refine ⟨_, rfl, ?_⟩))
  go_ret
  exact ⟨zr, zT HB.out GE101.out⟩
 rw [if_neg c4] at H
 have c4b0 : decide (t102 < 0) = false := decide_eq_false c4
 clear c4
 obtain rfl := Option.some.inj H
 go_enter Tryd.func6, Tryd.ntmps6
 go_wp2_with (first | (refine zBE 2 #[.int .i64 a0_0, .slice A0_1 l0_1.length c0_1] 24 ?_; intro gb101 hg w7 hbox hb; have BK101 := zA (hbox); have GW101 := zA (zBH hg HB.out); have GE101 := zA (zBH hg HB.out); replace HB := zA (kQ (zQ HB.out) hb); clear hb hbox hg; obtain ⟨hcz8_0, hcz8_1, hfz8_0, hfz8_1⟩ := zB3 BK101.out) | (refine zO (some 8) Tryd.func22 #[.slice A0_1 l0_1.length c0_1, .int .i64 a1] ?_; (with_reducible refine (laws_szInt64S.calls _ _ l0_1 a1 t102 _ ?side1 ?side2 A3.out).mono ?_); (case side1 => exact zS (kO HR0_1.out HB.out)); (case side2 => exact HC0_1.out); rintro e w' ⟨rfl, ⟨nd, rfl⟩⟩; refine ⟨_, rfl, ?_⟩))
 go_ret
 exact ⟨zr, zT HB.out GE101.out⟩

/-! ### spec_l01In: function 32 -/
def spec_l01In.f (a0 : Int) (a1 : Int) (a2 : Int) : Option (Bool) := if a0 ≥ a1 then (some (decide (a0 ≤ a2))) else (some false)
set_option maxHeartbeats 8000000 in
set_option maxRecDepth 100000 in
theorem spec_l01In.calls (a0 : Int) (a1 : Int) (a2 : Int) (r : Bool) (w : World) (h : spec_l01In.f a0 a1 a2 = some r) :
  Calls Tryd.prog 32 #[.int .i64 a0, .int .i64 a1, .int .i64 a2] w fun e w' => e = .returned (.bool r) ∧ Drawn0 w w' := by
 have H := h
 unfold spec_l01In.f at H
 clear h
 by_cases c4 : a0 ≥ a1
 ·rw [if_pos c4] at H
  have c4b0 : decide (a1 ≤ a0) = true := decide_eq_true c4
  clear c4
  obtain rfl := Option.some.inj H
  go_enter Tryd.func32, Tryd.ntmps32
  go_wp2
  go_ret
  exact ⟨zs, by repeat (first | exact Drawn0.refl _ | apply Drawn0.step)⟩
 rw [if_neg c4] at H
 have c4b0 : decide (a1 ≤ a0) = false := decide_eq_false c4
 clear c4
 obtain rfl := Option.some.inj H
 go_enter Tryd.func32, Tryd.ntmps32
 go_wp2
 go_ret
 exact ⟨zs, by repeat (first | exact Drawn0.refl _ | apply Drawn0.step)⟩

/-! ### spec_l01Bit: function 47 -/
def spec_l01Bit.f (a0 : Int) (a1 : Int) : Option (Bool) := if 0 ≤ (IntKind.u64.wrap (a1)) then (some ((Go.bits .and .i64 (shr .i64 a0 (IntKind.u64.wrap (a1))) 1) == 1)) else (none)
set_option maxHeartbeats 8000000 in
set_option maxRecDepth 100000 in
theorem spec_l01Bit.calls (a0 : Int) (a1 : Int) (r : Bool) (w : World) (h : spec_l01Bit.f a0 a1 = some r) :
  Calls Tryd.prog 47 #[.int .i64 a0, .int .i64 a1] w fun e w' => e = .returned (.bool r) ∧ Drawn0 w w' := by
 have H := h
 unfold spec_l01Bit.f at H
 clear h
 obtain ⟨ji3, hji3⟩ : ∃ j_ : Int, (IntKind.u64.wrap (a1)) = j_ := ⟨_, rfl⟩
 replace H : (if 0 ≤ (ji3) then (some ((Go.bits .and .i64 (shr .i64 a0 (ji3)) 1) == 1)) else (none)) = some r := by first | (rw [hji3] at H; exact H) | (simp only [hji3] at H ⊢; exact H)
 by_cases c4 : 0 ≤ (ji3)
 ·rw [if_pos c4] at H
  have c4b0 := eq_true c4
  have c4b1 : decide (0 ≤ (ji3)) = true := decide_eq_true c4
  clear c4
  obtain ⟨ji5, hji5⟩ : ∃ j_ : Int, (shr .i64 a0 (ji3)) = j_ := ⟨_, rfl⟩
  replace H : (some ((Go.bits .and .i64 (ji5) 1) == 1)) = some r := by first | (rw [hji5] at H; exact H) | (simp only [hji5] at H ⊢; exact H)
  have hji5_ : (a0 / 2 ^ min (ji3).toNat 64) = ji5 := hji5
  have hji5z : (ji3) ≤ 64 → (a0 / 2 ^ (ji3).toNat) = ji5 := shr_small hji5
  obtain rfl := Option.some.inj H
  go_enter Tryd.func47, Tryd.ntmps47
  go_wp2
  go_ret
  exact ⟨by first | rfl | (simp; done) | (simp only [← hji3, ← hji5] <;> (first | rfl | simp)) | (simp [*]; done), by repeat (first | exact Drawn0.refl _ | apply Drawn0.step)⟩
 rw [if_neg c4] at H
 exact absurd H (by simp)

/-! ### spec_l01One: function 55 -/
def spec_l01One.f (a0 : Int) : Option (Int) := if 0 ≤ (IntKind.u64.wrap (a0)) then (some (shl .i64 1 (IntKind.u64.wrap (a0)))) else (none)
set_option maxHeartbeats 8000000 in
set_option maxRecDepth 100000 in
theorem spec_l01One.calls (a0 : Int) (r : Int) (w : World) (h : spec_l01One.f a0 = some r) :
  Calls Tryd.prog 55 #[.int .i64 a0] w fun e w' => e = .returned (.int .i64 r) ∧ Drawn0 w w' := by
 have H := h
 unfold spec_l01One.f at H
 clear h
 obtain ⟨ji2, hji2⟩ : ∃ j_ : Int, (IntKind.u64.wrap (a0)) = j_ := ⟨_, rfl⟩
 replace H : (if 0 ≤ (ji2) then (some (shl .i64 1 (ji2))) else (none)) = some r := by first | (rw [hji2] at H; exact H) | (simp only [hji2] at H ⊢; exact H)
 by_cases c3 : 0 ≤ (ji2)
 ·rw [if_pos c3] at H
  have c3b0 := eq_true c3
  have c3b1 : decide (0 ≤ (ji2)) = true := decide_eq_true c3
  clear c3
  obtain ⟨ji4, hji4⟩ : ∃ j_ : Int, (shl .i64 1 (ji2)) = j_ := ⟨_, rfl⟩
  replace H : (some ji4) = some r := by first | (rw [hji4] at H; exact H) | (simp only [hji4] at H ⊢; exact H)
  have hji4_ : (IntKind.i64.wrap (1 * 2 ^ min (ji2).toNat 64)) = ji4 := hji4
  have hji4z : (ji2) ≤ 64 → (IntKind.i64.wrap (1 * 2 ^ (ji2).toNat)) = ji4 := shl_small hji4
  have hji4u : (IntKind.i64.wrap (2 ^ min (ji2).toNat 64)) = ji4 := by have h_ := hji4_; rw [Int.one_mul] at h_; exact h_
  have hji4v : (ji2) ≤ 64 → (IntKind.i64.wrap (2 ^ (ji2).toNat)) = ji4 := fun hle_ => by have h_ := hji4z hle_; rw [Int.one_mul] at h_; exact h_
  have hji4y : (wrap64 (1 * 2 ^ min (ji2).toNat 64)) = ji4 := (i64_w _).symm.trans hji4_
  have hji4x : (ji2) ≤ 64 → (wrap64 (1 * 2 ^ (ji2).toNat)) = ji4 := fun h_ => (i64_w _).symm.trans (hji4z h_)
  obtain rfl := Option.some.inj H
  go_enter Tryd.func55, Tryd.ntmps55
  go_wp2
  go_ret
  exact ⟨by first | rfl | (simp; done) | (simp only [← hji2, ← hji4] <;> (first | rfl | simp)) | (simp [*]; done), by repeat (first | exact Drawn0.refl _ | apply Drawn0.step)⟩
 rw [if_neg c3] at H
 exact absurd H (by simp)

/-! ### spec_l01Full: function 33 -/
def spec_l01Full.f (a0 : Int) : Option (Int) := (spec_l01One.f a0).bind fun t103 => (some (wrap64 (t103 - 1)))
set_option maxHeartbeats 8000000 in
set_option maxRecDepth 100000 in
theorem spec_l01Full.calls (a0 : Int) (r : Int) (w : World) (h : spec_l01Full.f a0 = some r) :
  Calls Tryd.prog 33 #[.int .i64 a0] w fun e w' => e = .returned (.int .i64 r) ∧ Drawn0 w w' := by
 have H := h
 unfold spec_l01Full.f at H
 clear h
 obtain ⟨t103, A2, H⟩ := zb H
 try dsimp only at H
 obtain rfl := Option.some.inj H
 go_enter Tryd.func33, Tryd.ntmps33
 go_wp2_with (first | (refine zO (some 4) Tryd.func55 #[.int .i64 a0] ?_; (with_reducible refine (spec_l01One.calls a0 t103 _ A2.out).mono ?_); rintro e w' ⟨rfl, ⟨nd, rfl⟩⟩; refine ⟨_, rfl, ?_⟩))
 go_ret
 exact ⟨zs, by repeat (first | exact Drawn0.refl _ | apply Drawn0.step)⟩

/-! ### spec_l01Masks: function 68 -/
def spec_l01Masks.l0 : Nat → Int → List Int → Int → Option (Bool)
 | 0, _, _, _ => none
 | k + 1, x0, x1, x5 => if x5 < (x1.length : Int) then (if 0 ≤ x5 then ((spec_l01Full.f x0).bind fun t105 => ((spec_l01In.f (rd x1 x5) 0 t105).bind fun t106 => (if t106 = true then (spec_l01Masks.l0 k x0 x1 (wrap64 (x5 + 1))) else (some false)))) else (none)) else (some true)
def spec_l01Masks.f (k : Nat) (a0 : Int) (l1 : List Int) : Option (Bool) := spec_l01Masks.l0 k a0 l1 0

set_option maxHeartbeats 8000000 in
set_option maxRecDepth 100000 in
theorem spec_l01Masks.calls (k : Nat) (a0 : Int) (A1 : Option Addr) (c1 : Nat) (l1 : List Int) (r : Bool) (w : World) (hr1 : Kd.C (Kd.int .i64) w A1 l1.length l1) (hc1 : l1.length ≤ c1) (h : spec_l01Masks.f k a0 l1 = some r) :
  Calls Tryd.prog 68 #[.int .i64 a0, .slice A1 l1.length c1] w fun e w' => e = .returned (.bool r) ∧ Drawn0 w w' := by
 have HR1 := zA hr1
 have HC1 := zA hc1
 clear hr1 hc1
 have H := h
 unfold spec_l01Masks.f at H
 clear h
 have H' := zA H
 clear H
 go_enter Tryd.func68, Tryd.ntmps68
 go_wp2
 repeat (go_quiet (fail); try go_wp2)
 go_loopg [5] k (fun kq v5 w' => ∃ (x5_1 : Int), v5 = .int .i64 x5_1 ∧ Aside0 (spec_l01Masks.l0 kq a0 l1 x5_1 = some r) ∧ Aside0 (kq ≤ k) ∧ Drawn0 w w')
 case atStart => exact ⟨(0), zs, H', ⟨Nat.le_refl _⟩, by repeat (first | exact Drawn0.refl _ | apply Drawn0.step)⟩
 case round =>
  clear H'
  try clear c1
  obtain ⟨x5_1, rfl, HA, HK1, ⟨m1, rfl⟩⟩ := hrel
  cases gk with
  | zero => exact absurd HA.out (by simp [spec_l01Masks.l0])
  | succ k1 =>
   have H := HA.out
   clear HA
   simp only [spec_l01Masks.l0] at H
   by_cases c3 : x5_1 < (l1.length : Int)
   ·rw [if_pos c3] at H
    have c3b0 : decide (x5_1 < (l1.length : Int)) = true := decide_eq_true c3
    clear c3
    by_cases c4 : 0 ≤ x5_1
    ·rw [if_pos c4] at H
     have c4b0 : decide (0 ≤ x5_1) = true := decide_eq_true c4
     clear c4
     obtain ⟨t105, A5, H⟩ := zb H
     try dsimp only at H
     obtain ⟨t106, A6, H⟩ := zb H
     try dsimp only at H
     by_cases c7 : t106 = true
     ·subst c7
      rw [if_pos rfl] at H
      have H' := zA H
      clear H
      have p104 : 0 ≤ (x5_1 : Int) := zd
      have q104 : x5_1 < (l1.length : Int) := zd
      obtain ⟨ad104, e104, hx104_0⟩ := Kd.at_int HR1.out x5_1 p104 q104
      cases e104
      replace p104 := eq_true p104
      replace q104 := eq_true q104
      go_wp2_with (first | (go_at_call 33; (with_reducible refine (spec_l01Full.calls a0 t105 _ A5.out).mono ?_); rintro e w' ⟨rfl, ⟨nd, rfl⟩⟩; (try exact zw)) | (go_at_call 32; (with_reducible refine (spec_l01In.calls (rd l1 x5_1) 0 t105 true _ A6.out).mono ?_); rintro e w' ⟨rfl, ⟨nd, rfl⟩⟩; (try exact zw)))
      repeat (go_quiet (first | (go_at_call 33; (with_reducible refine (spec_l01Full.calls a0 t105 _ A5.out).mono ?_); rintro e w' ⟨rfl, ⟨nd, rfl⟩⟩; (try exact zw)) | (go_at_call 32; (with_reducible refine (spec_l01In.calls (rd l1 x5_1) 0 t105 true _ A6.out).mono ?_); rintro e w' ⟨rfl, ⟨nd, rfl⟩⟩; (try exact zw))); try go_wp2_with (first | (go_at_call 33; (with_reducible refine (spec_l01Full.calls a0 t105 _ A5.out).mono ?_); rintro e w' ⟨rfl, ⟨nd, rfl⟩⟩; (try exact zw)) | (go_at_call 32; (with_reducible refine (spec_l01In.calls (rd l1 x5_1) 0 t105 true _ A6.out).mono ?_); rintro e w' ⟨rfl, ⟨nd, rfl⟩⟩; (try exact zw))))
      go_roundg k1
      case measure => have := HK1.out; omega
      case rel => exact ⟨(wrap64 (x5_1 + 1)), zs, H', ⟨by have := HK1.out; omega⟩, by repeat (first | exact Drawn0.refl _ | apply Drawn0.step)⟩
     replace c7 := Bool.eq_false_iff.mpr c7
     subst c7
     rw [if_neg (show ¬ (false = true) by decide)] at H
     obtain rfl := Option.some.inj H
     have p104 : 0 ≤ (x5_1 : Int) := zd
     have q104 : x5_1 < (l1.length : Int) := zd
     obtain ⟨ad104, e104, hx104_0⟩ := Kd.at_int HR1.out x5_1 p104 q104
     cases e104
     replace p104 := eq_true p104
     replace q104 := eq_true q104
     go_wp2_with (first | (go_at_call 33; (with_reducible refine (spec_l01Full.calls a0 t105 _ A5.out).mono ?_); rintro e w' ⟨rfl, ⟨nd, rfl⟩⟩; (try exact zw)) | (go_at_call 32; (with_reducible refine (spec_l01In.calls (rd l1 x5_1) 0 t105 false _ A6.out).mono ?_); rintro e w' ⟨rfl, ⟨nd, rfl⟩⟩; (try exact zw)))
     repeat (go_quiet (first | (go_at_call 33; (with_reducible refine (spec_l01Full.calls a0 t105 _ A5.out).mono ?_); rintro e w' ⟨rfl, ⟨nd, rfl⟩⟩; (try exact zw)) | (go_at_call 32; (with_reducible refine (spec_l01In.calls (rd l1 x5_1) 0 t105 false _ A6.out).mono ?_); rintro e w' ⟨rfl, ⟨nd, rfl⟩⟩; (try exact zw))); try go_wp2_with (first | (go_at_call 33; (with_reducible refine (spec_l01Full.calls a0 t105 _ A5.out).mono ?_); rintro e w' ⟨rfl, ⟨nd, rfl⟩⟩; (try exact zw)) | (go_at_call 32; (with_reducible refine (spec_l01In.calls (rd l1 x5_1) 0 t105 false _ A6.out).mono ?_); rintro e w' ⟨rfl, ⟨nd, rfl⟩⟩; (try exact zw))))
     go_ret
     exact ⟨zs, by repeat (first | exact Drawn0.refl _ | apply Drawn0.step)⟩
    rw [if_neg c4] at H
    exact absurd H (by simp)
   rw [if_neg c3] at H
   have c3b0 : decide (x5_1 < (l1.length : Int)) = false := decide_eq_false c3
   clear c3
   obtain rfl := Option.some.inj H
   go_wp2
   repeat (go_quiet (fail); try go_wp2)
   go_ret
   exact ⟨zs, by repeat (first | exact Drawn0.refl _ | apply Drawn0.step)⟩

/-! ### spec_l02Is: function 54 -/
mutual
def spec_l02Is.j0 : Nat → Bool → Int → List Int → Option (Bool)
 | 0, _, _, _ => none
 | k + 1, x24, x108000, x108001 => if x24 = true then (some false) else (spec_l02Is.l0 k 0 x108000 x108001)
def spec_l02Is.l0 : Nat → Int → Int → List Int → Option (Bool)
 | 0, _, _, _ => none
 | k + 1, x3, x108000, x108001 => if x3 < x108000 then (if 0 ≤ x3 then (if x3 < (x108001.length : Int) then ((spec_l01Bit.f (rd x108001 x3) x3).bind fun t111 => (if t111 = true then (spec_l02Is.l1 k x3 0 x108000 x108001) else (some false))) else (none)) else (none)) else (some true)
def spec_l02Is.l1 : Nat → Int → Int → Int → List Int → Option (Bool)
 | 0, _, _, _, _ => none
 | k + 1, x3, x4, x108000, x108001 => if x4 < x108000 then (if 0 ≤ x3 then (if x3 < (x108001.length : Int) then ((spec_l01Bit.f (rd x108001 x3) x4).bind fun t113 => (if 0 ≤ x4 then (if x4 < (x108001.length : Int) then ((spec_l01Bit.f (rd x108001 x4) x3).bind fun t115 => (if (t113 != t115) = true then (some false) else (spec_l02Is.l1 k x3 (wrap64 (x4 + 1)) x108000 x108001))) else (none)) else (none))) else (none)) else (none)) else (spec_l02Is.l0 k (wrap64 (x3 + 1)) x108000 x108001)
end
def spec_l02Is.f (k : Nat) (a0_0 : Int) (l0_1 : List Int) : Option (Bool) := (spec_l01In.f a0_0 0 8).bind fun t108 => (if t108 = true then (if (l0_1.length : Int) = a0_0 then ((spec_l01Masks.f k a0_0 l0_1).bind fun t109 => (spec_l02Is.j0 k (!t109) a0_0 l0_1)) else (spec_l02Is.j0 k true a0_0 l0_1)) else (spec_l02Is.j0 k true a0_0 l0_1))

set_option maxHeartbeats 8000000 in
set_option maxRecDepth 100000 in
theorem spec_l02Is.calls (k : Nat) (a0_0 : Int) (A0_1 : Option Addr) (c0_1 : Nat) (l0_1 : List Int) (r : Bool) (w : World) (hr0_1 : Kd.C (Kd.int .i64) w A0_1 l0_1.length l0_1) (hc0_1 : l0_1.length ≤ c0_1) (h : spec_l02Is.f k a0_0 l0_1 = some r) :
  Calls Tryd.prog 54 #[.agg #[.int .i64 a0_0, .slice A0_1 l0_1.length c0_1]] w fun e w' => e = .returned (.bool r) ∧ Below w.heap.size w w' := by
 have hu29 := Tryd.underlying29
 have HR0_1 := zA hr0_1
 have HC0_1 := zA hc0_1
 clear hr0_1 hc0_1
 have HB := zA (kW w.heap.size w)
 have H := h
 unfold spec_l02Is.f at H
 clear h
 have HC2 := zA H
 clear H
 go_enter Tryd.func54, Tryd.ntmps54
 go_upto_region 1 with (first | (refine zBE 1 #[.int .i64 a0_0, .slice A0_1 l0_1.length c0_1] 29 ?_; intro gb107 hg w3 hbox hb; have BK107 := zA (hbox); have GW107 := zA (zBH hg HB.out); have GE107 := zA (zBH hg HB.out); replace HB := zA (kQ (zQ HB.out) hb); clear hb hbox hg))
 repeat (go_quiet (first | (refine zBE 1 #[.int .i64 a0_0, .slice A0_1 l0_1.length c0_1] 29 ?_; intro gb107 hg w3 hbox hb; have n0_ := zA (kQ (zQ HB.out) hb); have n1_ := zA (hbox); have n2_ := zA (zBH hg HB.out); have n3_ := zA (zBH hg HB.out); clear HB; have HB := n0_; have BK107 := n1_; have GW107 := n2_; have GE107 := n3_; clear n0_ n1_ n2_ n3_; clear hb hbox hg)); go_upto_region 1 with (first | (refine zBE 1 #[.int .i64 a0_0, .slice A0_1 l0_1.length c0_1] 29 ?_; intro gb107 hg w3 hbox hb; have BK107 := zA (hbox); have GW107 := zA (zBH hg HB.out); have GE107 := zA (zBH hg HB.out); replace HB := zA (kQ (zQ HB.out) hb); clear hb hbox hg)))
 (try simp only [Act.put, zL, zM, zN])
 go_cut [24] (fun v24 wc => ∃ (kq : Nat) (x24_1 : Bool), v24 = .bool x24_1 ∧ Aside0 (spec_l02Is.j0 kq x24_1 a0_0 l0_1 = some r) ∧ Aside0 (kq ≤ k) ∧ Aside0 (wc.heap[gb107]? = some (.cells #[.int .i64 a0_0, (.slice A0_1 l0_1.length c0_1)] 29 (0, 0))) ∧ Aside0 (Below w.heap.size w wc))
 case first =>
  have H := HC2.out
  clear HC2
  obtain ⟨t108, A4, H⟩ := zb H
  try dsimp only at H
  by_cases c5 : t108 = true
  ·subst c5
   rw [if_pos rfl] at H
   by_cases c6 : (l0_1.length : Int) = a0_0
   ·rw [if_pos c6] at H
    obtain ⟨c6b0, c6b1⟩ := zT1 c6
    clear c6
    (first | rw [c6b0] | (simp only [i64_w, i32_w]; rw [c6b0]) | skip)
    obtain ⟨t109, A7, H⟩ := zb H
    try dsimp only at H
    have H' := zA H
    clear H
    obtain ⟨hcz8_0, hcz8_1, hfz8_0, hfz8_1⟩ := zB3 BK107.out
    go_wp2_with (first | (go_at_call 32; (with_reducible refine (spec_l01In.calls a0_0 0 8 true _ A4.out).mono ?_); rintro e w' ⟨rfl, ⟨nd, rfl⟩⟩; (try exact zw)) | (go_at_call 68; (with_reducible refine (spec_l01Masks.calls k a0_0 _ _ l0_1 t109 _ ?side1 ?side2 A7.out).mono ?_); (case side1 => exact zS (kO HR0_1.out (zT HB.out GE107.out))); (case side2 => exact HC0_1.out); rintro e w' ⟨rfl, ⟨nd, rfl⟩⟩; (try exact zw)))
    repeat (go_quiet (first | (go_at_call 32; (with_reducible refine (spec_l01In.calls a0_0 0 8 true _ A4.out).mono ?_); rintro e w' ⟨rfl, ⟨nd, rfl⟩⟩; (try exact zw)) | (go_at_call 68; (with_reducible refine (spec_l01Masks.calls k a0_0 _ _ l0_1 t109 _ ?side1 ?side2 A7.out).mono ?_); (case side1 => exact zS (kO HR0_1.out (zT HB.out GE107.out))); (case side2 => exact HC0_1.out); rintro e w' ⟨rfl, ⟨nd, rfl⟩⟩; (try exact zw))); try go_wp2_with (first | (go_at_call 32; (with_reducible refine (spec_l01In.calls a0_0 0 8 true _ A4.out).mono ?_); rintro e w' ⟨rfl, ⟨nd, rfl⟩⟩; (try exact zw)) | (go_at_call 68; (with_reducible refine (spec_l01Masks.calls k a0_0 _ _ l0_1 t109 _ ?side1 ?side2 A7.out).mono ?_); (case side1 => exact zS (kO HR0_1.out (zT HB.out GE107.out))); (case side2 => exact HC0_1.out); rintro e w' ⟨rfl, ⟨nd, rfl⟩⟩; (try exact zw))))
    go_meet
    case rel => exact ⟨_, (!t109), zs, H', ⟨by first | omega | exact Nat.le_refl _⟩, ⟨zR BK107.out⟩, ⟨zT HB.out GE107.out⟩⟩
   rw [if_neg c6] at H
   obtain ⟨c6b0, c6b1⟩ := zT2 c6
   (first | rw [c6b0] | (simp only [i64_w, i32_w]; rw [c6b0]) | skip)
   have H' := zA H
   clear H
   obtain ⟨hcz9_0, hcz9_1, hfz9_0, hfz9_1⟩ := zB3 BK107.out
   go_wp2_with (first | (go_at_call 32; (with_reducible refine (spec_l01In.calls a0_0 0 8 true _ A4.out).mono ?_); rintro e w' ⟨rfl, ⟨nd, rfl⟩⟩; (try exact zw)))
   repeat (go_quiet (first | (go_at_call 32; (with_reducible refine (spec_l01In.calls a0_0 0 8 true _ A4.out).mono ?_); rintro e w' ⟨rfl, ⟨nd, rfl⟩⟩; (try exact zw))); try go_wp2_with (first | (go_at_call 32; (with_reducible refine (spec_l01In.calls a0_0 0 8 true _ A4.out).mono ?_); rintro e w' ⟨rfl, ⟨nd, rfl⟩⟩; (try exact zw))))
   go_meet
   case rel => exact ⟨_, (true), zs, H', ⟨by first | omega | exact Nat.le_refl _⟩, ⟨zR BK107.out⟩, ⟨zT HB.out GE107.out⟩⟩
  replace c5 := Bool.eq_false_iff.mpr c5
  subst c5
  rw [if_neg (show ¬ (false = true) by decide)] at H
  have H' := zA H
  clear H
  obtain ⟨hcz10_0, hcz10_1, hfz10_0, hfz10_1⟩ := zB3 BK107.out
  go_wp2_with (first | (go_at_call 32; (with_reducible refine (spec_l01In.calls a0_0 0 8 false _ A4.out).mono ?_); rintro e w' ⟨rfl, ⟨nd, rfl⟩⟩; (try exact zw)))
  repeat (go_quiet (first | (go_at_call 32; (with_reducible refine (spec_l01In.calls a0_0 0 8 false _ A4.out).mono ?_); rintro e w' ⟨rfl, ⟨nd, rfl⟩⟩; (try exact zw))); try go_wp2_with (first | (go_at_call 32; (with_reducible refine (spec_l01In.calls a0_0 0 8 false _ A4.out).mono ?_); rintro e w' ⟨rfl, ⟨nd, rfl⟩⟩; (try exact zw))))
  go_meet
  case rel => exact ⟨_, (true), zs, H', ⟨by first | omega | exact Nat.le_refl _⟩, ⟨zR BK107.out⟩, ⟨zT HB.out GE107.out⟩⟩
 case rest =>
  clear HC2
  try clear c5
  try clear c6
  try clear hcz10_0
  try clear hcz10_1
  try clear hcz8_0
  try clear hcz8_1
  try clear hcz9_0
  try clear hcz9_1
  try clear hfz10_0
  try clear hfz10_1
  try clear hfz8_0
  try clear hfz8_1
  try clear hfz9_0
  try clear hfz9_1
  obtain ⟨kq, x24_1, rfl, HA, HJ1, BK107, HB⟩ := hcut
  cases kq with
  | zero => exact absurd HA.out (by simp [spec_l02Is.j0])
  | succ kj1 =>
   have H := HA.out
   clear HA
   simp only [spec_l02Is.j0] at H
   by_cases c11 : x24_1 = true
   ·subst c11
    rw [if_pos rfl] at H
    obtain rfl := Option.some.inj H
    go_wp2
    repeat (go_quiet (fail); try go_wp2)
    go_ret
    exact ⟨zr, zT HB.out GE107.out⟩
   replace c11 := Bool.eq_false_iff.mpr c11
   subst c11
   rw [if_neg (show ¬ (false = true) by decide)] at H
   have H' := zA H
   clear H
   go_wp2
   repeat (go_quiet (fail); try go_wp2)
   go_loopg [3] kj1 (fun kq v3 w' => ∃ (x3_2 : Int), v3 = .int .i64 x3_2 ∧ Aside0 (spec_l02Is.l0 kq x3_2 a0_0 l0_1 = some r) ∧ Aside0 (kq ≤ kj1) ∧ Aside0 (w'.heap[gb107]? = some (.cells #[.int .i64 a0_0, (.slice A0_1 l0_1.length c0_1)] 29 (0, 0))) ∧ Aside0 (Below w.heap.size w w'))
   case atStart => exact ⟨(0), zs, H', ⟨Nat.le_refl _⟩, ⟨zR BK107.out⟩, ⟨zT HB.out GE107.out⟩⟩
   case round =>
    clear H'
    try clear c1
    try clear c5
    try clear c6
    try clear c11
    try clear hcz10_0
    try clear hcz10_1
    try clear hcz8_0
    try clear hcz8_1
    try clear hcz9_0
    try clear hcz9_1
    try clear hfz10_0
    try clear hfz10_1
    try clear hfz8_0
    try clear hfz8_1
    try clear hfz9_0
    try clear hfz9_1
    obtain ⟨x3_2, rfl, HA, HK2, BK107, HB⟩ := hrel
    cases gk with
    | zero => exact absurd HA.out (by simp [spec_l02Is.l0])
    | succ k2 =>
     have H := HA.out
     clear HA
     simp only [spec_l02Is.l0] at H
     by_cases c12 : x3_2 < a0_0
     ·rw [if_pos c12] at H
      have c12b0 : decide (x3_2 < a0_0) = true := decide_eq_true c12
      clear c12
      by_cases c13 : 0 ≤ x3_2
      ·rw [if_pos c13] at H
       have c13b0 : decide (0 ≤ x3_2) = true := decide_eq_true c13
       clear c13
       by_cases c14 : x3_2 < (l0_1.length : Int)
       ·rw [if_pos c14] at H
        have c14b0 : decide (x3_2 < (l0_1.length : Int)) = true := decide_eq_true c14
        clear c14
        obtain ⟨t111, A15, H⟩ := zb H
        try dsimp only at H
        by_cases c16 : t111 = true
        ·subst c16
         rw [if_pos rfl] at H
         have H' := zA H
         clear H
         obtain ⟨hcz17_0, hcz17_1, hfz17_0, hfz17_1⟩ := zB3 BK107.out
         have p110 : 0 ≤ (x3_2 : Int) := zd
         have q110 : x3_2 < (l0_1.length : Int) := zd
         obtain ⟨ad110, e110, hx110_0⟩ := Kd.at_int HR0_1.out x3_2 p110 q110
         cases e110
         replace hx110_0 := (HB.out.cell (jG w _ hx110_0)).trans hx110_0
         replace p110 := eq_true p110
         replace q110 := eq_true q110
         go_wp2_with (first | (go_at_call 47; (with_reducible refine (spec_l01Bit.calls (rd l0_1 x3_2) x3_2 true _ A15.out).mono ?_); rintro e w' ⟨rfl, ⟨nd, rfl⟩⟩; (try exact zw)))
         repeat (go_quiet (first | (go_at_call 47; (with_reducible refine (spec_l01Bit.calls (rd l0_1 x3_2) x3_2 true _ A15.out).mono ?_); rintro e w' ⟨rfl, ⟨nd, rfl⟩⟩; (try exact zw))); try go_wp2_with (first | (go_at_call 47; (with_reducible refine (spec_l01Bit.calls (rd l0_1 x3_2) x3_2 true _ A15.out).mono ?_); rintro e w' ⟨rfl, ⟨nd, rfl⟩⟩; (try exact zw))))
         go_loopg [4] k2 (fun kq v4 w' => ∃ (x4_3 : Int), v4 = .int .i64 x4_3 ∧ Aside0 (spec_l02Is.l1 kq x3_2 x4_3 a0_0 l0_1 = some r) ∧ Aside0 (kq ≤ k2) ∧ Aside0 (w'.heap[gb107]? = some (.cells #[.int .i64 a0_0, (.slice (some ad110) l0_1.length c0_1)] 29 (0, 0))) ∧ Aside0 (Below w.heap.size w w'))
         case atStart => exact ⟨(0), zs, H', ⟨Nat.le_refl _⟩, ⟨zR BK107.out⟩, ⟨zT HB.out GE107.out⟩⟩
         case round =>
          clear H'
          try clear c1
          try clear hx1
          try clear c5
          try clear c6
          try clear c11
          try clear hx11
          try clear c12
          try clear c13
          try clear c14
          try clear c16
          try clear hcz10_0
          try clear hcz10_1
          try clear hcz17_0
          try clear hcz17_1
          try clear hcz8_0
          try clear hcz8_1
          try clear hcz9_0
          try clear hcz9_1
          try clear hfz10_0
          try clear hfz10_1
          try clear hfz17_0
          try clear hfz17_1
          try clear hfz8_0
          try clear hfz8_1
          try clear hfz9_0
          try clear hfz9_1
          try clear hx110_0
          obtain ⟨x4_3, rfl, HA, HK3, BK107, HB⟩ := hrel
          cases gk with
          | zero => exact absurd HA.out (by simp [spec_l02Is.l1])
          | succ k3 =>
           have H := HA.out
           clear HA
           simp only [spec_l02Is.l1] at H
           by_cases c18 : x4_3 < a0_0
           ·rw [if_pos c18] at H
            have c18b0 : decide (x4_3 < a0_0) = true := decide_eq_true c18
            clear c18
            by_cases c19 : 0 ≤ x3_2
            ·rw [if_pos c19] at H
             have c19b0 : decide (0 ≤ x3_2) = true := decide_eq_true c19
             clear c19
             by_cases c20 : x3_2 < (l0_1.length : Int)
             ·rw [if_pos c20] at H
              have c20b0 : decide (x3_2 < (l0_1.length : Int)) = true := decide_eq_true c20
              clear c20
              obtain ⟨t113, A21, H⟩ := zb H
              try dsimp only at H
              by_cases c22 : 0 ≤ x4_3
              ·rw [if_pos c22] at H
               have c22b0 : decide (0 ≤ x4_3) = true := decide_eq_true c22
               clear c22
               by_cases c23 : x4_3 < (l0_1.length : Int)
               ·rw [if_pos c23] at H
                have c23b0 : decide (x4_3 < (l0_1.length : Int)) = true := decide_eq_true c23
                clear c23
                obtain ⟨t115, A24, H⟩ := zb H
                try dsimp only at H
                by_cases c25 : (t113 != t115) = true
                ·rw [if_pos c25] at H
                 have c25b0 : (t113 != t115) = true := c25
                 (try (have c25b1 : decide (t113 = t115) = false := by simpa using c25))
                 (try (have c25b2 : (t113 == t115) = false := by simpa using c25))
                 (try (have c25b3 : ¬ (t113 = t115) := by simpa using c25))
                 clear c25
                 obtain rfl := Option.some.inj H
                 obtain ⟨hcz26_0, hcz26_1, hfz26_0, hfz26_1⟩ := zB3 BK107.out
                 have p112 : 0 ≤ (x3_2 : Int) := zd
                 have q112 : x3_2 < (l0_1.length : Int) := zd
                 obtain ⟨ad112, e112, hx112_0⟩ := Kd.at_int HR0_1.out x3_2 p112 q112
                 obtain rfl : ad110 = ad112 := (by injection e112)
                 replace hx112_0 := (HB.out.cell (jG w _ hx112_0)).trans hx112_0
                 replace p112 := eq_true p112
                 replace q112 := eq_true q112
                 go_wp2_with (first | (go_at_call 47; (with_reducible refine (spec_l01Bit.calls (rd l0_1 x3_2) x4_3 t113 _ A21.out).mono ?_); rintro e w' ⟨rfl, ⟨nd, rfl⟩⟩; (try exact zw); have p114 : 0 ≤ (x4_3 : Int) := zd; have q114 : x4_3 < (l0_1.length : Int) := zd; obtain ⟨ad114, e114, hx114_0⟩ := Kd.at_int HR0_1.out x4_3 p114 q114; obtain rfl : ad110 = ad114 := (by injection e114); replace hx114_0 := (HB.out.cell (jG w _ hx114_0)).trans hx114_0; replace p114 := eq_true p114; replace q114 := eq_true q114) | (go_at_call 47; (with_reducible refine (spec_l01Bit.calls (rd l0_1 x4_3) x3_2 t115 _ A24.out).mono ?_); rintro e w' ⟨rfl, ⟨nd, rfl⟩⟩; (try exact zw)))
                 repeat (go_quiet (first | (go_at_call 47; (with_reducible refine (spec_l01Bit.calls (rd l0_1 x3_2) x4_3 t113 _ A21.out).mono ?_); rintro e w' ⟨rfl, ⟨nd, rfl⟩⟩; (try exact zw); have p114 : 0 ≤ (x4_3 : Int) := zd; have q114 : x4_3 < (l0_1.length : Int) := zd; obtain ⟨ad114, e114, hx114_0⟩ := Kd.at_int HR0_1.out x4_3 p114 q114; obtain rfl : ad110 = ad114 := (by injection e114); replace hx114_0 := (HB.out.cell (jG w _ hx114_0)).trans hx114_0; replace p114 := eq_true p114; replace q114 := eq_true q114) | (go_at_call 47; (with_reducible refine (spec_l01Bit.calls (rd l0_1 x4_3) x3_2 t115 _ A24.out).mono ?_); rintro e w' ⟨rfl, ⟨nd, rfl⟩⟩; (try exact zw))); try go_wp2_with (first | (go_at_call 47; (with_reducible refine (spec_l01Bit.calls (rd l0_1 x3_2) x4_3 t113 _ A21.out).mono ?_); rintro e w' ⟨rfl, ⟨nd, rfl⟩⟩; (try exact zw); have p114 : 0 ≤ (x4_3 : Int) := zd; have q114 : x4_3 < (l0_1.length : Int) := zd; obtain ⟨ad114, e114, hx114_0⟩ := Kd.at_int HR0_1.out x4_3 p114 q114; obtain rfl : ad110 = ad114 := (by injection e114); replace hx114_0 := (HB.out.cell (jG w _ hx114_0)).trans hx114_0; replace p114 := eq_true p114; replace q114 := eq_true q114) | (go_at_call 47; (with_reducible refine (spec_l01Bit.calls (rd l0_1 x4_3) x3_2 t115 _ A24.out).mono ?_); rintro e w' ⟨rfl, ⟨nd, rfl⟩⟩; (try exact zw))))
                 go_ret
                 exact ⟨zr, zT HB.out GE107.out⟩
                rw [if_neg c25] at H
                have c25b0 : (t113 != t115) = false := by simpa using c25
                (try (have c25b1 : decide (t113 = t115) = true := by simpa using c25))
                (try (have c25b2 : (t113 == t115) = true := by simpa using c25))
                clear c25
                have H' := zA H
                clear H
                obtain ⟨hcz27_0, hcz27_1, hfz27_0, hfz27_1⟩ := zB3 BK107.out
                have p112 : 0 ≤ (x3_2 : Int) := zd
                have q112 : x3_2 < (l0_1.length : Int) := zd
                obtain ⟨ad112, e112, hx112_0⟩ := Kd.at_int HR0_1.out x3_2 p112 q112
                obtain rfl : ad110 = ad112 := (by injection e112)
                replace hx112_0 := (HB.out.cell (jG w _ hx112_0)).trans hx112_0
                replace p112 := eq_true p112
                replace q112 := eq_true q112
                go_wp2_with (first | (go_at_call 47; (with_reducible refine (spec_l01Bit.calls (rd l0_1 x3_2) x4_3 t113 _ A21.out).mono ?_); rintro e w' ⟨rfl, ⟨nd, rfl⟩⟩; (try exact zw); have p114 : 0 ≤ (x4_3 : Int) := zd; have q114 : x4_3 < (l0_1.length : Int) := zd; obtain ⟨ad114, e114, hx114_0⟩ := Kd.at_int HR0_1.out x4_3 p114 q114; obtain rfl : ad110 = ad114 := (by injection e114); replace hx114_0 := (HB.out.cell (jG w _ hx114_0)).trans hx114_0; replace p114 := eq_true p114; replace q114 := eq_true q114) | (go_at_call 47; (with_reducible refine (spec_l01Bit.calls (rd l0_1 x4_3) x3_2 t115 _ A24.out).mono ?_); rintro e w' ⟨rfl, ⟨nd, rfl⟩⟩; (try exact zw)))
                repeat (go_quiet (first | (go_at_call 47; (with_reducible refine (spec_l01Bit.calls (rd l0_1 x3_2) x4_3 t113 _ A21.out).mono ?_); rintro e w' ⟨rfl, ⟨nd, rfl⟩⟩; (try exact zw); have p114 : 0 ≤ (x4_3 : Int) := zd; have q114 : x4_3 < (l0_1.length : Int) := zd; obtain ⟨ad114, e114, hx114_0⟩ := Kd.at_int HR0_1.out x4_3 p114 q114; obtain rfl : ad110 = ad114 := (by injection e114); replace hx114_0 := (HB.out.cell (jG w _ hx114_0)).trans hx114_0; replace p114 := eq_true p114; replace q114 := eq_true q114) | (go_at_call 47; (with_reducible refine (spec_l01Bit.calls (rd l0_1 x4_3) x3_2 t115 _ A24.out).mono ?_); rintro e w' ⟨rfl, ⟨nd, rfl⟩⟩; (try exact zw))); try go_wp2_with (first | (go_at_call 47; (with_reducible refine (spec_l01Bit.calls (rd l0_1 x3_2) x4_3 t113 _ A21.out).mono ?_); rintro e w' ⟨rfl, ⟨nd, rfl⟩⟩; (try exact zw); have p114 : 0 ≤ (x4_3 : Int) := zd; have q114 : x4_3 < (l0_1.length : Int) := zd; obtain ⟨ad114, e114, hx114_0⟩ := Kd.at_int HR0_1.out x4_3 p114 q114; obtain rfl : ad110 = ad114 := (by injection e114); replace hx114_0 := (HB.out.cell (jG w _ hx114_0)).trans hx114_0; replace p114 := eq_true p114; replace q114 := eq_true q114) | (go_at_call 47; (with_reducible refine (spec_l01Bit.calls (rd l0_1 x4_3) x3_2 t115 _ A24.out).mono ?_); rintro e w' ⟨rfl, ⟨nd, rfl⟩⟩; (try exact zw))))
                go_roundg k3
                case measure => have := HJ1.out; have := HK2.out; have := HK3.out; omega
                case rel => exact ⟨(wrap64 (x4_3 + 1)), zs, H', ⟨by have := HJ1.out; have := HK2.out; have := HK3.out; omega⟩, ⟨zR BK107.out⟩, ⟨zT HB.out GE107.out⟩⟩
               rw [if_neg c23] at H
               exact absurd H (by simp)
              rw [if_neg c22] at H
              exact absurd H (by simp)
             rw [if_neg c20] at H
             exact absurd H (by simp)
            rw [if_neg c19] at H
            exact absurd H (by simp)
           rw [if_neg c18] at H
           have c18b0 : decide (x4_3 < a0_0) = false := decide_eq_false c18
           clear c18
           have H' := zA H
           clear H
           obtain ⟨hcz28_0, hcz28_1, hfz28_0, hfz28_1⟩ := zB3 BK107.out
           go_wp2
           repeat (go_quiet (fail); try go_wp2)
           go_roundg k3
           case measure => have := HJ1.out; have := HK2.out; have := HK3.out; omega
           case rel => exact ⟨(wrap64 (x3_2 + 1)), zs, H', ⟨by have := HJ1.out; have := HK2.out; have := HK3.out; omega⟩, ⟨zR BK107.out⟩, ⟨zT HB.out GE107.out⟩⟩
        replace c16 := Bool.eq_false_iff.mpr c16
        subst c16
        rw [if_neg (show ¬ (false = true) by decide)] at H
        obtain rfl := Option.some.inj H
        obtain ⟨hcz29_0, hcz29_1, hfz29_0, hfz29_1⟩ := zB3 BK107.out
        have p110 : 0 ≤ (x3_2 : Int) := zd
        have q110 : x3_2 < (l0_1.length : Int) := zd
        obtain ⟨ad110, e110, hx110_0⟩ := Kd.at_int HR0_1.out x3_2 p110 q110
        cases e110
        replace hx110_0 := (HB.out.cell (jG w _ hx110_0)).trans hx110_0
        replace p110 := eq_true p110
        replace q110 := eq_true q110
        go_wp2_with (first | (go_at_call 47; (with_reducible refine (spec_l01Bit.calls (rd l0_1 x3_2) x3_2 false _ A15.out).mono ?_); rintro e w' ⟨rfl, ⟨nd, rfl⟩⟩; (try exact zw)))
        repeat (go_quiet (first | (go_at_call 47; (with_reducible refine (spec_l01Bit.calls (rd l0_1 x3_2) x3_2 false _ A15.out).mono ?_); rintro e w' ⟨rfl, ⟨nd, rfl⟩⟩; (try exact zw))); try go_wp2_with (first | (go_at_call 47; (with_reducible refine (spec_l01Bit.calls (rd l0_1 x3_2) x3_2 false _ A15.out).mono ?_); rintro e w' ⟨rfl, ⟨nd, rfl⟩⟩; (try exact zw))))
        go_ret
        exact ⟨zr, zT HB.out GE107.out⟩
       rw [if_neg c14] at H
       exact absurd H (by simp)
      rw [if_neg c13] at H
      exact absurd H (by simp)
     rw [if_neg c12] at H
     have c12b0 : decide (x3_2 < a0_0) = false := decide_eq_false c12
     clear c12
     obtain rfl := Option.some.inj H
     obtain ⟨hcz30_0, hcz30_1, hfz30_0, hfz30_1⟩ := zB3 BK107.out
     go_wp2
     repeat (go_quiet (fail); try go_wp2)
     go_ret
     exact ⟨zr, zT HB.out GE107.out⟩

/-! ### spec_l06Code: function 31 -/
def spec_l06Code.f (k : Nat) (a0_0 : Int) (l0_1 : List Int) (a1 : Int) : Option (Int) := (spec_l02Is.f k a0_0 l0_1).bind fun t117 => (if t117 = true then ((spec_l01In.f a1 0 24).bind fun t118 => (if t118 = true then (some 0) else (some 2))) else (some 1))

set_option maxHeartbeats 8000000 in
set_option maxRecDepth 100000 in
theorem spec_l06Code.calls (k : Nat) (a0_0 : Int) (A0_1 : Option Addr) (c0_1 : Nat) (l0_1 : List Int) (a1 : Int) (r : Int) (w : World) (hr0_1 : Kd.C (Kd.int .i64) w A0_1 l0_1.length l0_1) (hc0_1 : l0_1.length ≤ c0_1) (h : spec_l06Code.f k a0_0 l0_1 a1 = some r) :
  Calls Tryd.prog 31 #[.agg #[.int .i64 a0_0, .slice A0_1 l0_1.length c0_1], .int .i64 a1] w fun e w' => e = .returned (.int .i64 r) ∧ Below w.heap.size w w' := by
 have hu29 := Tryd.underlying29
 have HR0_1 := zA hr0_1
 have HC0_1 := zA hc0_1
 clear hr0_1 hc0_1
 have HB := zA (kW w.heap.size w)
 have H := h
 unfold spec_l06Code.f at H
 clear h
 obtain ⟨t117, A3, H⟩ := zb H
 try dsimp only at H
 by_cases c4 : t117 = true
 ·subst c4
  rw [if_pos rfl] at H
  obtain ⟨t118, A5, H⟩ := zb H
  try dsimp only at H
  by_cases c6 : t118 = true
  ·subst c6
   rw [if_pos rfl] at H
   obtain rfl := Option.some.inj H
   go_enter Tryd.func31, Tryd.ntmps31
   go_wp2_with (first | (refine zBE 2 #[.int .i64 a0_0, .slice A0_1 l0_1.length c0_1] 29 ?_; intro gb116 hg w7 hbox hb; have BK116 := zA (hbox); have GW116 := zA (zBH hg HB.out); have GE116 := zA (zBH hg HB.out); replace HB := zA (kQ (zQ HB.out) hb); clear hb hbox hg; obtain ⟨hcz8_0, hcz8_1, hfz8_0, hfz8_1⟩ := zB3 BK116.out) | (refine zO (some 6) Tryd.func54 #[.agg #[.int .i64 a0_0, .slice A0_1 l0_1.length c0_1]] ?_; (with_reducible refine (spec_l02Is.calls k a0_0 _ _ l0_1 true _ ?side1 ?side2 A3.out).mono ?_); (case side1 => exact zS (kO HR0_1.out HB.out)); (case side2 => exact HC0_1.out); rintro e w9 ⟨rfl, hb⟩; refine ⟨_, rfl, ?_⟩; replace BK116 := zA (zB1 BK116.out hb); replace HB := zA (kQ (zT HB.out GE116.out) hb); (try clear hb)) | (refine zO (some 9) Tryd.func32 #[.int .i64 a1, .int .i64 0, .int .i64 24] ?_; (with_reducible refine (spec_l01In.calls a1 0 24 true _ A5.out).mono ?_); rintro e w' ⟨rfl, ⟨nd, rfl⟩⟩; refine ⟨_, rfl, ?_⟩))
   go_ret
   exact ⟨zr, zT HB.out GE116.out⟩
  replace c6 := Bool.eq_false_iff.mpr c6
  subst c6
  rw [if_neg (show ¬ (false = true) by decide)] at H
  obtain rfl := Option.some.inj H
  go_enter Tryd.func31, Tryd.ntmps31
  go_wp2_with (first | (refine zBE 2 #[.int .i64 a0_0, .slice A0_1 l0_1.length c0_1] 29 ?_; intro gb116 hg w10 hbox hb; have BK116 := zA (hbox); have GW116 := zA (zBH hg HB.out); have GE116 := zA (zBH hg HB.out); replace HB := zA (kQ (zQ HB.out) hb); clear hb hbox hg; obtain ⟨hcz11_0, hcz11_1, hfz11_0, hfz11_1⟩ := zB3 BK116.out) | (refine zO (some 6) Tryd.func54 #[.agg #[.int .i64 a0_0, .slice A0_1 l0_1.length c0_1]] ?_; (with_reducible refine (spec_l02Is.calls k a0_0 _ _ l0_1 true _ ?side1 ?side2 A3.out).mono ?_); (case side1 => exact zS (kO HR0_1.out HB.out)); (case side2 => exact HC0_1.out); rintro e w12 ⟨rfl, hb⟩; refine ⟨_, rfl, ?_⟩; replace BK116 := zA (zB1 BK116.out hb); replace HB := zA (kQ (zT HB.out GE116.out) hb); (try clear hb)) | (refine zO (some 9) Tryd.func32 #[.int .i64 a1, .int .i64 0, .int .i64 24] ?_; (with_reducible refine (spec_l01In.calls a1 0 24 false _ A5.out).mono ?_); rintro e w' ⟨rfl, ⟨nd, rfl⟩⟩; refine ⟨_, rfl, ?_⟩))
  go_ret
  exact ⟨zr, zT HB.out GE116.out⟩
 replace c4 := Bool.eq_false_iff.mpr c4
 subst c4
 rw [if_neg (show ¬ (false = true) by decide)] at H
 obtain rfl := Option.some.inj H
 go_enter Tryd.func31, Tryd.ntmps31
 go_wp2_with (first | (refine zBE 2 #[.int .i64 a0_0, .slice A0_1 l0_1.length c0_1] 29 ?_; intro gb116 hg w13 hbox hb; have BK116 := zA (hbox); have GW116 := zA (zBH hg HB.out); have GE116 := zA (zBH hg HB.out); replace HB := zA (kQ (zQ HB.out) hb); clear hb hbox hg; obtain ⟨hcz14_0, hcz14_1, hfz14_0, hfz14_1⟩ := zB3 BK116.out) | (refine zO (some 6) Tryd.func54 #[.agg #[.int .i64 a0_0, .slice A0_1 l0_1.length c0_1]] ?_; (with_reducible refine (spec_l02Is.calls k a0_0 _ _ l0_1 false _ ?side1 ?side2 A3.out).mono ?_); (case side1 => exact zS (kO HR0_1.out HB.out)); (case side2 => exact HC0_1.out); rintro e w15 ⟨rfl, hb⟩; refine ⟨_, rfl, ?_⟩; replace BK116 := zA (zB1 BK116.out hb); replace HB := zA (kQ (zT HB.out GE116.out) hb); (try clear hb)))
 go_ret
 exact ⟨zr, zT HB.out GE116.out⟩

/-! ### spec_l06After: function 48 -/
def spec_l01Full_Bl06After.f (a0 : Int) : Option (Int) := spec_l01Full.f a0
theorem spec_l01Full_Bl06After.calls (a0 : Int) (r : Int) (w : World) (h : spec_l01Full_Bl06After.f a0 = some r) :
 Calls Tryd.prog 33 #[.int .i64 a0] w fun e w' => e = .returned (.int .i64 r) ∧ Below w.heap.size w w' := by
 refine (spec_l01Full.calls a0 r w h).mono ?_
 rintro e w' ⟨h1, h2⟩
 exact ⟨h1, Drawn0.below h2⟩
def spec_l06After.f (a0_0 : Int) (l0_1 : List Int) (a1 : Int) (a2 : Int) : Option (Int) := (spec_l01Full_Bl06After.f a2).bind fun t120 => ((spec_l01Full_Bl06After.f a2).bind fun t121 => (if 0 ≤ a2 then (if a2 < (l0_1.length : Int) then (some (wrap64 ((Go.bits .or .i64 a1 t120) - (Go.bits .and .i64 (Go.bits .or .i64 a1 t121) (rd l0_1 a2))))) else (none)) else (none)))
def spec_l06After.T1 : Bool × List (List Nat × List Nat) := (true, [([], []), ([], []), ([1], [1]), ([0, 2], [0, 2]), ([], []), ([], []), ([5, 2], [5]), ([4, 6], [4, 6]), ([], []), ([8], [8]), ([], []), ([9, 10], [9, 10]), ([11], [11]), ([7, 12], [7, 12]), ([3, 13], [3, 13]), ([14, 6, 0, 1, 2, 3, 4, 5, 6, 7, 8, 9, 10, 11, 12, 13, 14], [14])])
def spec_l06After.B1 : List Nat := [0, 0, 2, 7, 0, 0, 38, 118, 0, 256, 0, 1792, 3840, 8182, 16383, 32767]
theorem spec_l06After.tab1 : rtab .any (opsOf Tryd.f48 1) = spec_l06After.T1 := by kernel_rfl
theorem spec_l06After.bits1 : waitsOk spec_l06After.T1.2 spec_l06After.B1 = true := by kernel_rfl
set_option maxHeartbeats 8000000 in
set_option maxRecDepth 100000 in
theorem spec_l06After.calls (a0_0 : Int) (A0_1 : Option Addr) (c0_1 : Nat) (l0_1 : List Int) (a1 : Int) (a2 : Int) (r : Int) (w : World) (hr0_1 : Kd.C (Kd.int .i64) w A0_1 l0_1.length l0_1) (hc0_1 : l0_1.length ≤ c0_1) (h : spec_l06After.f a0_0 l0_1 a1 a2 = some r) :
  Calls Tryd.prog 48 #[.agg #[.int .i64 a0_0, .slice A0_1 l0_1.length c0_1], .int .i64 a1, .int .i64 a2] w fun e w' => e = .returned (.int .i64 r) ∧ Below w.heap.size w w' := by
 have hu29 := Tryd.underlying29
 have HR0_1 := zA hr0_1
 have HC0_1 := zA hc0_1
 clear hr0_1 hc0_1
 have HB := zA (kW w.heap.size w)
 have H := h
 unfold spec_l06After.f at H
 clear h
 obtain ⟨t120, A4, H⟩ := zb H
 try dsimp only at H
 obtain ⟨t121, A5, H⟩ := zb H
 try dsimp only at H
 by_cases c6 : 0 ≤ a2
 ·rw [if_pos c6] at H
  have c6b0 : decide (0 ≤ a2) = true := decide_eq_true c6
  clear c6
  by_cases c7 : a2 < (l0_1.length : Int)
  ·rw [if_pos c7] at H
   have c7b0 : decide (a2 < (l0_1.length : Int)) = true := decide_eq_true c7
   clear c7
   obtain rfl := Option.some.inj H
   go_enter Tryd.func48, Tryd.ntmps48
   try go_wp2_with (first | (refine zBE 3 #[.int .i64 a0_0, .slice A0_1 l0_1.length c0_1] 29 ?_; intro gb119 hg w8 hbox hb; have BK119 := zA (hbox); have GW119 := zA (zBH hg HB.out); have GE119 := zA (zBH hg HB.out); replace HB := zA (kQ (zQ HB.out) hb); clear hb hbox hg))
   replace BK119 := zA (zK BK119.out)
   replace HB := zA (zD HB.out)
   have p122 : 0 ≤ (a2 : Int) := zd
   have q122 : a2 < (l0_1.length : Int) := zd
   obtain ⟨ad122, e122, hx122_0⟩ := Kd.at_int HR0_1.out a2 p122 q122
   have hw122_0 := hx122_0
   cases e122
   replace hx122_0 := (HB.out.cell (jG w _ hx122_0)).trans hx122_0
   replace p122 := eq_true p122
   replace q122 := eq_true q122
   refine start_ (n := 16) (S := fun w' => w'.cell? ⟨gb119, 0, none⟩ = some (.int .i64 a0_0) ∧ w'.cell? ⟨gb119, 1, none⟩ = some (.slice (some ad122) l0_1.length c0_1) ∧ w'.cell? (ad122.add (a2).toNat) = some (.int .i64 (rd l0_1 a2))) (ds := []) #[false, false, false, false, false, false, false, false, false, false, false, false, false, false, false, false] (by kernel_rfl) rfl rfl ⟨(kV BK119.out 0).trans rfl, (kV BK119.out 1).trans rfl, (pw_cell_below HB.out hw122_0)⟩ (fun hHeld => ?_); refine with_tabW spec_l06After.tab1 spec_l06After.bits1 (fun HT_ HW_ => ?_)
   generalize w8.drew = w9 at BK119 HB hx122_0 hHeld ⊢
   refine zp 0 (some 7) #[true, false, false, false, false, false, false, false, false, false, false, false, false, false, false, false] HT_.out ?_
   refine zp 1 (some 8) #[true, true, false, false, false, false, false, false, false, false, false, false, false, false, false, false] HT_.out ?_
   refine zp 4 (some 11) #[true, true, false, false, true, false, false, false, false, false, false, false, false, false, false, false] HT_.out ?_
   refine zp 5 (some 12) #[true, true, false, false, true, true, false, false, false, false, false, false, false, false, false, false] HT_.out ?_
   refine zp 8 (some 15) #[true, true, false, false, true, true, false, false, true, false, false, false, false, false, false, false] HT_.out ?_
   refine zp 10 (some 17) #[true, true, false, false, true, true, false, false, true, false, true, false, false, false, false, false] HT_.out ?_
   refine ze 9 (some 16) #[true, true, false, false, true, true, false, false, true, true, true, false, false, false, false, false] HT_.out HW_.out hHeld ?_
   refine zp 11 (some 18) #[true, true, false, false, true, true, false, false, true, true, true, true, false, false, false, false] HT_.out ?_
   refine ze 12 (some 19) #[true, true, false, false, true, true, false, false, true, true, true, true, true, false, false, false] HT_.out HW_.out hHeld ?_
   refine one_ (i := 2) (N := some 9) #[true, true, true, false, true, true, false, false, true, true, true, true, true, false, false, false] rfl rfl (one_of HT_.out (by kernel_rfl)) (by decide) (fun K hK => ?_)
   refine goes_ Tryd.func33 (by kernel_rfl) rfl #[.int .i64 a2] (by rfl) rfl rfl zg ?_
   with_reducible refine (spec_l01Full_Bl06After.calls a2 t120 _ A4.out).mono ?_
   rintro e w10 ⟨rfl, hb⟩
   refine ⟨_, rfl, ?_⟩
   replace BK119 := zA (zB1 BK119.out hb)
   replace HB := zA (kQ (zT HB.out GE119.out) hb)
   (try clear hb)
   (try clear hb2)
   (try clear hk)
   (try clear hi)
   (try clear hgw)
   refine hK.out _ _ ⟨(kV BK119.out 0).trans rfl, (kV BK119.out 1).trans rfl, (pw_cell_below HB.out hw122_0)⟩ (fun hHeld => ?_)
   clear hK K
   refine norm_ (a' := ?_) ?_ ?_
   rotate_left
   ·show Act.put _ (some 9) _ = _
    simp only [Act.put, zL, zM, zN, i64_w, i32_w]
    rfl
   refine zp 3 (some 10) #[true, true, true, true, true, true, false, false, true, true, true, true, true, false, false, false] HT_.out ?_
   refine one_ (i := 6) (N := some 13) #[true, true, true, true, true, true, true, false, true, true, true, true, true, false, false, false] rfl rfl (one_of HT_.out (by kernel_rfl)) (by decide) (fun K hK => ?_)
   refine goes_ Tryd.func33 (by kernel_rfl) rfl #[.int .i64 a2] (by rfl) rfl rfl zg ?_
   with_reducible refine (spec_l01Full_Bl06After.calls a2 t121 _ A5.out).mono ?_
   rintro e w11 ⟨rfl, hb⟩
   refine ⟨_, rfl, ?_⟩
   replace BK119 := zA (zB1 BK119.out hb)
   replace HB := zA (kQ (zT HB.out GE119.out) hb)
   (try clear hb)
   (try clear hb2)
   (try clear hk)
   (try clear hi)
   (try clear hgw)
   refine hK.out _ _ ⟨(kV BK119.out 0).trans rfl, (kV BK119.out 1).trans rfl, (pw_cell_below HB.out hw122_0)⟩ (fun hHeld => ?_)
   clear hK K
   refine norm_ (a' := ?_) ?_ ?_
   rotate_left
   ·show Act.put _ (some 13) _ = _
    simp only [Act.put, zL, zM, zN, i64_w, i32_w]
    rfl
   refine zp 7 (some 14) #[true, true, true, true, true, true, true, true, true, true, true, true, true, false, false, false] HT_.out ?_
   refine zp 13 (some 20) #[true, true, true, true, true, true, true, true, true, true, true, true, true, true, false, false] HT_.out ?_
   refine zp 14 (some 21) #[true, true, true, true, true, true, true, true, true, true, true, true, true, true, true, false] HT_.out ?_
   refine zp 15 (some 6) #[true, true, true, true, true, true, true, true, true, true, true, true, true, true, true, true] HT_.out ?_
   refine done_ (done_of HT_.out (by kernel_rfl)) ?_
   try go_wp2
   go_ret
   exact ⟨zr, zT HB.out GE119.out⟩
  rw [if_neg c7] at H
  exact absurd H (by simp)
 rw [if_neg c6] at H
 exact absurd H (by simp)

/-! ### spec_l06Tails: function 45 -/
mutual
def spec_l06Tails.l0 : Nat → Int → Int → List Int → Int → Int → List Int → Option ((List (List Int)))
 | 0, _, _, _, _, _, _ => none
 | k + 1, x1, x5, x6, x7, x124000, x124001 => if x7 < x5 then (if x6.length < 17592186044416 then (spec_l06Tails.l0 k x1 x5 (x6 ++ [1]) (wrap64 (x7 + 1)) x124000 x124001) else (none)) else (spec_l06Tails.l1 k x1 x5 (([x6] : List (List Int))) 1 x124000 x124001)
def spec_l06Tails.l1 : Nat → Int → Int → List (List Int) → Int → Int → List Int → Option ((List (List Int)))
 | 0, _, _, _, _, _, _ => none
 | k + 1, x1, x5, x8, x9, x124000, x124001 => if x9 ≤ x1 then (spec_l06Tails.l2 k x1 x5 x8 x9 (([] : List Int)) 0 x124000 x124001) else (some x8)
def spec_l06Tails.l2 : Nat → Int → Int → List (List Int) → Int → List Int → Int → Int → List Int → Option ((List (List Int)))
 | 0, _, _, _, _, _, _, _, _ => none
 | k + 1, x1, x5, x8, x9, x10, x11, x124000, x124001 => if x11 < x5 then (spec_l06Tails.l3 k x1 x5 x8 x9 x10 x11 0 0 x124000 x124001) else (if x8.length < 5864062014805 then (spec_l06Tails.l1 k x1 x5 (x8 ++ [x10]) (wrap64 (x9 + 1)) x124000 x124001) else (none))
def spec_l06Tails.l3 : Nat → Int → Int → List (List Int) → Int → List Int → Int → Int → Int → Int → List Int → Option ((List (List Int)))
 | 0, _, _, _, _, _, _, _, _, _, _ => none
 | k + 1, x1, x5, x8, x9, x10, x11, x12, x13, x124000, x124001 => if x13 < x124000 then ((spec_l01Bit.f x11 x13).bind fun t146 => (if t146 = true then (spec_l06Tails.l3 k x1 x5 x8 x9 x10 x11 x12 (wrap64 (x13 + 1)) x124000 x124001) else (if 0 ≤ (wrap64 (x9 - 1)) then (if (wrap64 (x9 - 1)) < (x8.length : Int) then ((spec_l06After.f x124000 x124001 x11 x13).bind fun t148 => (if 0 ≤ t148 then (if t148 < ((rd_L1 x8 (wrap64 (x9 - 1))).length : Int) then (spec_l06Tails.l3 k x1 x5 x8 x9 x10 x11 (wrap64 (x12 + (rd (rd_L1 x8 (wrap64 (x9 - 1))) t148))) (wrap64 (x13 + 1)) x124000 x124001) else (none)) else (none))) else (none)) else (none)))) else (if x12 > 1000000000000000 then (if x10.length < 17592186044416 then (spec_l06Tails.l2 k x1 x5 x8 x9 (x10 ++ [1000000000000001]) (wrap64 (x11 + 1)) x124000 x124001) else (none)) else (if x10.length < 17592186044416 then (spec_l06Tails.l2 k x1 x5 x8 x9 (x10 ++ [x12]) (wrap64 (x11 + 1)) x124000 x124001) else (none)))
end
def spec_l06Tails.f (k : Nat) (a0_0 : Int) (l0_1 : List Int) (a1 : Int) : Option ((List (List Int))) := (spec_l01One.f a0_0).bind fun t124 => (spec_l06Tails.l0 k a1 t124 (([] : List Int)) 0 a0_0 l0_1)

def spec_l06Tails.T20 : Bool × List (List Nat × List Nat) := (true, [([], []), ([], []), ([], []), ([2], [2]), ([1, 3], [1, 3]), ([4], [4]), ([], []), ([], []), ([], []), ([6, 7, 8], [6, 7, 8]), ([5, 9], [5, 9]), ([10], [10]), ([0, 11], [0, 11]), ([12, 9, 0, 1, 2, 3, 4, 5, 6, 7, 8, 9, 10, 11, 12], [0, 12])])
def spec_l06Tails.B20 : List Nat := [0, 0, 0, 4, 14, 30, 0, 0, 0, 448, 1022, 2046, 4095, 8191]
theorem spec_l06Tails.tab20 : rtab .any (opsOf Tryd.f45 20) = spec_l06Tails.T20 := by kernel_rfl
theorem spec_l06Tails.bits20 : waitsOk spec_l06Tails.T20.2 spec_l06Tails.B20 = true := by kernel_rfl
set_option maxHeartbeats 8000000 in
set_option maxRecDepth 100000 in
theorem spec_l06Tails.calls (k : Nat) (a0_0 : Int) (A0_1 : Option Addr) (c0_1 : Nat) (l0_1 : List Int) (a1 : Int) (r : List (List Int)) (w : World) (hr0_1 : Kd.C (Kd.int .i64) w A0_1 l0_1.length l0_1) (hc0_1 : l0_1.length ≤ c0_1) (h : spec_l06Tails.f k a0_0 l0_1 a1 = some r) :
  Calls Tryd.prog 45 #[.agg #[.int .i64 a0_0, .slice A0_1 l0_1.length c0_1], .int .i64 a1] w fun e w' => ∃ v0_ : Value, e = .returned (v0_) ∧ Kd.N (Kd.slice 2 (Kd.int .i64)) 22 w' w.heap.size (fun k_ => (w.heap.size ≤ k_)) v0_ r ∧ Below w.heap.size w w' := by
 have hu29 := Tryd.underlying29
 have HR0_1 := zA hr0_1
 have HC0_1 := zA hc0_1
 clear hr0_1 hc0_1
 have HB := zA (kW w.heap.size w)
 have H := h
 unfold spec_l06Tails.f at H
 clear h
 obtain ⟨t124, A3, H⟩ := zb H
 try dsimp only at H
 obtain ⟨y125, hy125⟩ : ∃ y_ : List Int, y_ = (([] : List Int)) := ⟨_, rfl⟩
 replace H : (spec_l06Tails.l0 k a1 t124 y125 0 a0_0 l0_1) = some r := zy hy125 H
 have Ny125 := zA hy125
 clear hy125
 have H' := zA H
 clear H
 go_enter Tryd.func45, Tryd.ntmps45
 go_wp2_with (first | (refine zBE 2 #[.int .i64 a0_0, .slice A0_1 l0_1.length c0_1] 29 ?_; intro gb123 hg w4 hbox hb; have BK123 := zA (hbox); have GW123 := zA (zBH hg HB.out); have GE123 := zA (zBH hg HB.out); replace HB := zA (kQ (zQ HB.out) hb); clear hb hbox hg; obtain ⟨hcz5_0, hcz5_1, hfz5_0, hfz5_1⟩ := zB3 BK123.out) | (refine zO (some 16) Tryd.func55 #[.int .i64 a0_0] ?_; (with_reducible refine (spec_l01One.calls a0_0 t124 _ A3.out).mono ?_); rintro e w' ⟨rfl, ⟨nd, rfl⟩⟩; refine ⟨_, rfl, ?_⟩) | ((with_reducible refine kS (N := 17) rfl ?_); refine Kd.R_lit (Kd.int .i64) _ 2 ?hg (N := 17) ?hd (xs := ([] : List Int)) (inner := []) (ok := fun _ => True) (okp := fun _ => True) ?hr ?hp (fun _ hk => hk) trivial (kW _ _) (Nat.le_refl _) (by simp) ?_; (case hd => rfl); (case hg => rfl); (case hr => first | (go_simp; done) | (go_simp; rfl)); (case hp => exact (Reps.none _ _)); intro v126 w6 ho7 hb hg_ hnew_; clear hg_ hnew_; (first | rw [← Ny125.out] at ho7 | (simp only [Int.reduceToNat] at ho7; rw [← Ny125.out] at ho7)); have HO127 := zA (kI (Kd.R_newM (M := fun k_ => (w.heap.size ≤ k_)) ho7 (kP (zT HB.out GE123.out)) (fun k_ h_ => h_)) (kP (zT HB.out GE123.out))); replace BK123 := zA (zB1 BK123.out hb); replace HB := zA (kQ (zT HB.out GE123.out) hb); clear hb ho7))
 go_loopg [6, 7] k (fun kq v6 v7 w' => ∃ (x6_1 : List Int) (x7_1 : Int), v7 = .int .i64 x7_1 ∧ Aside0 (spec_l06Tails.l0 kq a1 t124 x6_1 x7_1 a0_0 l0_1 = some r) ∧ Aside0 (kq ≤ k) ∧ Aside0 (Kd.R (Kd.int .i64) 2 w' w.heap.size (fun k_ => (w.heap.size ≤ k_)) v6 x6_1) ∧ Aside0 (w'.heap[gb123]? = some (.cells #[.int .i64 a0_0, (.slice A0_1 l0_1.length c0_1)] 29 (0, 0))) ∧ Aside0 (Below w.heap.size w w'))
 case atStart => exact ⟨(y125), (0), zs, H', ⟨Nat.le_refl _⟩, ⟨zPM HO127.out (fun _ hk => hk.1)⟩, ⟨zR BK123.out⟩, ⟨zT HB.out GE123.out⟩⟩
 case round =>
  clear H'
  try clear c4
  try clear c5
  try clear hcz5_0
  try clear hcz5_1
  try clear hfz5_0
  try clear hfz5_1
  obtain ⟨x6_1, x7_1, rfl, HA, HK1, HO_6, BK123, HB⟩ := hrel
  cases gk with
  | zero => exact absurd HA.out (by simp [spec_l06Tails.l0])
  | succ k1 =>
   have H := HA.out
   clear HA
   simp only [spec_l06Tails.l0] at H
   by_cases c8 : x7_1 < t124
   ·rw [if_pos c8] at H
    have c8b0 : decide (x7_1 < t124) = true := decide_eq_true c8
    clear c8
    by_cases c9 : x6_1.length < 17592186044416
    ·rw [if_pos c9] at H
     have LMc9 := zA c9
     clear c9
     obtain ⟨y128, hy128⟩ : ∃ y_ : List Int, y_ = (x6_1 ++ [1]) := ⟨_, rfl⟩
     replace H : (spec_l06Tails.l0 k1 a1 t124 y128 (wrap64 (x7_1 + 1)) a0_0 l0_1) = some r := zy hy128 H
     have Ny128 := zA hy128
     clear hy128
     have H' := zA H
     clear H
     go_wp2_with (first | ((with_reducible refine gate_builtin (b := .append) (xs := #[.tmp 23, .tmp 24]) rfl ?_); at_builtin; refine Kd.R_append (Kd.int .i64) (w0 := w) w.heap.size rfl (.tmp 23) (.tmp 24) 22 2 (.int .i64 0) 8 rfl Tryd.underlying22 info2 rfl (by decide) (by omega) u6 x6_1 1 [.int .i64 1] (fun k_ => (w.heap.size ≤ k_)) (fun _ => False) rfl rfl ?aP (fun _ hk => hk.elim) ?aF ?aO ?aB ?aS ?aL ?_; (case aP => exact rfl); (case aB => exact (zT HB.out GE123.out)); (case aF => exact (fun k_ hk => (Nat.le_trans (kP (zT HB.out GE123.out)) hk))); (case aO => exact (zP HO_6.out)); (case aS => exact (kP (zT HB.out GE123.out))); (case aL => have := LMc9.out; omega); intro v129 w10 ho hb hg hat; rw [← Ny128.out] at ho; replace BK123 := zA (blk_grown (g := gb123) (o := .cells #[.int .i64 a0_0, .slice A0_1 l0_1.length c0_1] 29 (0, 0)) (zR BK123.out) hg (Kd.R_ne HO_6.out BK123.out (by decide))); replace HB := zA (hb); have HO130 := zA (ho); clear HO_6; clear ho hb hg hat))
     go_roundg k1
     case measure => have := HK1.out; omega
     case rel => exact ⟨(y128), (wrap64 (x7_1 + 1)), zs, H', ⟨by have := HK1.out; omega⟩, ⟨zP HO130.out⟩, ⟨zR BK123.out⟩, ⟨zT HB.out GE123.out⟩⟩
    rw [if_neg c9] at H
    exact absurd H (by simp)
   rw [if_neg c8] at H
   have c8b0 : decide (x7_1 < t124) = false := decide_eq_false c8
   clear c8
   obtain ⟨y131, hy131⟩ : ∃ y_ : List (List Int), y_ = (([x6_1] : List (List Int))) := ⟨_, rfl⟩
   replace H : (spec_l06Tails.l1 k1 a1 t124 y131 1 a0_0 l0_1) = some r := zy hy131 H
   have Ny131 := zA hy131
   clear hy131
   have H' := zA H
   clear H
   obtain ⟨Ao11, co11, eo11⟩ := kM HO_6.out
   subst eo11
   go_wp2_with (first | ((with_reducible refine kS (N := 27) rfl ?_); refine Kd.N_lit (Kd.slice 2 (Kd.int .i64)) _ 22 ?hg (N' := 27) ?hd (xs := ([x6_1] : List (List Int))) (inner := [.slice Ao11 x6_1.length co11]) (ok := (fun k_ => (w.heap.size ≤ k_) ∧ k_ ≠ gb123)) (okp := (fun k_ => (w.heap.size ≤ k_) ∧ k_ ≠ gb123)) ?hr ?hp (fun _ hk => hk) ((show ∀ k_ : Nat, (_ : Nat) ≤ k_ → (fun k_ => (w.heap.size ≤ k_) ∧ k_ ≠ gb123) k_ from fun k_ hk => ⟨(Nat.le_trans (kP (zT HB.out GE123.out)) hk), jE (g := gb123) (o := .cells #[.int .i64 a0_0, .slice A0_1 l0_1.length c0_1] 29 (0, 0)) (zR BK123.out) k_ hk⟩) _ (Nat.le_refl _)) (kW _ _) (Nat.le_refl _) (by simp) ?_; (case hd => rfl); (case hg => rfl); (case hr => first | (go_simp; done) | (go_simp; rfl)); (case hp => exact (Reps.one (show Kd.FK (Kd.slice 2 (Kd.int .i64)) _ _ x6_1 [.slice Ao11 x6_1.length co11] from (Kd.FK_slice_mk (kB (kA (ok' := (fun k_ => (w.heap.size ≤ k_) ∧ k_ ≠ gb123)) (kD (HO_6.out) BK123.out (by decide)) (fun k_ hk => ⟨hk.1, hk.2⟩))).2.1 (Kd.R_F (kA (ok' := (fun k_ => (w.heap.size ≤ k_) ∧ k_ ≠ gb123)) (kD (HO_6.out) BK123.out (by decide)) (fun k_ hk => ⟨hk.1, hk.2⟩))))) (Reps.none _ _))); intro v132 w12 ho13 hb hg_ hnew_; clear hg_ hnew_; (first | rw [← Ny131.out] at ho13 | (simp only [Int.reduceToNat] at ho13; rw [← Ny131.out] at ho13)); have HO133 := zA (jN ho13 (kP (zT HB.out GE123.out))); replace BK123 := zA (zB1 BK123.out hb); replace HB := zA (kQ (zT HB.out GE123.out) hb); clear HO_6; clear hb ho13))
   go_loopg [8, 9] k1 (fun kq v8 v9 w' => ∃ (x8_2 : List (List Int)) (x9_2 : Int), v9 = .int .i64 x9_2 ∧ Aside0 (spec_l06Tails.l1 kq a1 t124 x8_2 x9_2 a0_0 l0_1 = some r) ∧ Aside0 (kq ≤ k1) ∧ Aside0 (Kd.N (Kd.slice 2 (Kd.int .i64)) 22 w' w.heap.size (fun k_ => (w.heap.size ≤ k_) ∧ k_ ≠ gb123) v8 x8_2) ∧ Aside0 (w'.heap[gb123]? = some (.cells #[.int .i64 a0_0, (.slice A0_1 l0_1.length c0_1)] 29 (0, 0))) ∧ Aside0 (Below w.heap.size w w'))
   case atStart => exact ⟨(y131), (1), zs, H', ⟨Nat.le_refl _⟩, ⟨zPN HO133.out⟩, ⟨zR BK123.out⟩, ⟨zT HB.out GE123.out⟩⟩
   case round =>
    clear H'
    try clear c4
    try clear c5
    try clear c8
    try clear c9
    try clear hcz5_0
    try clear hcz5_1
    try clear hfz5_0
    try clear hfz5_1
    obtain ⟨x8_2, x9_2, rfl, HA, HK2, HO_8, BK123, HB⟩ := hrel
    cases gk with
    | zero => exact absurd HA.out (by simp [spec_l06Tails.l1])
    | succ k2 =>
     have H := HA.out
     clear HA
     simp only [spec_l06Tails.l1] at H
     by_cases c14 : x9_2 ≤ a1
     ·rw [if_pos c14] at H
      have c14b0 : decide (x9_2 ≤ a1) = true := decide_eq_true c14
      clear c14
      obtain ⟨y134, hy134⟩ : ∃ y_ : List Int, y_ = (([] : List Int)) := ⟨_, rfl⟩
      replace H : (spec_l06Tails.l2 k2 a1 t124 x8_2 x9_2 y134 0 a0_0 l0_1) = some r := zy hy134 H
      have Ny134 := zA hy134
      clear hy134
      have H' := zA H
      clear H
      go_wp2_with (first | ((with_reducible refine kS (N := 33) rfl ?_); refine Kd.R_lit (Kd.int .i64) _ 2 ?hg (N := 33) ?hd (xs := ([] : List Int)) (inner := []) (ok := fun _ => True) (okp := fun _ => True) ?hr ?hp (fun _ hk => hk) trivial (kW _ _) (Nat.le_refl _) (by simp) ?_; (case hd => rfl); (case hg => rfl); (case hr => first | (go_simp; done) | (go_simp; rfl)); (case hp => exact (Reps.none _ _)); intro v135 w15 ho16 hb hg_ hnew_; clear hg_ hnew_; (first | rw [← Ny134.out] at ho16 | (simp only [Int.reduceToNat] at ho16; rw [← Ny134.out] at ho16)); replace HO_8 := zA (Kd.N_elder' (zPN HO_8.out) (kC ho16) hb); have HO136 := zA (kI (Kd.R_newM (M := fun k_ => (w.heap.size ≤ k_)) ho16 (kP (zT HB.out GE123.out)) (fun k_ h_ => h_)) (kP (zT HB.out GE123.out))); replace BK123 := zA (zB1 BK123.out hb); replace HB := zA (kQ (zT HB.out GE123.out) hb); clear hb ho16))
      go_loopg [10, 11] k2 (fun kq v10 v11 w' => ∃ (x10_3 : List Int) (x11_3 : Int), v11 = .int .i64 x11_3 ∧ Aside0 (spec_l06Tails.l2 kq a1 t124 x8_2 x9_2 x10_3 x11_3 a0_0 l0_1 = some r) ∧ Aside0 (kq ≤ k2) ∧ Aside0 (Kd.N (Kd.slice 2 (Kd.int .i64)) 22 w' w.heap.size (fun k_ => (w.heap.size ≤ k_) ∧ some k_ ≠ (v10 : Value).ownBlock ∧ k_ ≠ gb123) u8 x8_2) ∧ Aside0 (Kd.R (Kd.int .i64) 2 w' w.heap.size (fun k_ => (w.heap.size ≤ k_)) v10 x10_3) ∧ Aside0 (w'.heap[gb123]? = some (.cells #[.int .i64 a0_0, (.slice A0_1 l0_1.length c0_1)] 29 (0, 0))) ∧ Aside0 (Below w.heap.size w w'))
      case atStart => exact ⟨(y134), (0), zs, H', ⟨Nat.le_refl _⟩, ⟨by (with_reducible repeat (first | apply Kd.N_alloc | apply Kd.N_drewN | apply Kd.N_drew)); exact Kd.N_mono HO_8.out (fun _ hk => ⟨hk.1.1, ⟨hk.2, hk.1.2⟩⟩)⟩, ⟨zPM HO136.out (fun _ hk => hk.1)⟩, ⟨zR BK123.out⟩, ⟨zT HB.out GE123.out⟩⟩
      case round =>
       clear H'
       try clear c1
       try clear c4
       try clear c5
       try clear c8
       try clear c9
       try clear c14
       try clear hcz5_0
       try clear hcz5_1
       try clear hfz5_0
       try clear hfz5_1
       obtain ⟨x10_3, x11_3, rfl, HA, HK3, HO_8, HO_10, BK123, HB⟩ := hrel
       cases gk with
       | zero => exact absurd HA.out (by simp [spec_l06Tails.l2])
       | succ k3 =>
        have H := HA.out
        clear HA
        simp only [spec_l06Tails.l2] at H
        by_cases c17 : x11_3 < t124
        ·rw [if_pos c17] at H
         have c17b0 : decide (x11_3 < t124) = true := decide_eq_true c17
         clear c17
         have H' := zA H
         clear H
         go_wp2
         go_loopg [12, 13] k3 (fun kq v12 v13 w' => ∃ (x12_4 : Int) (x13_4 : Int), v12 = .int .i64 x12_4 ∧ v13 = .int .i64 x13_4 ∧ Aside0 (spec_l06Tails.l3 kq a1 t124 x8_2 x9_2 x10_3 x11_3 x12_4 x13_4 a0_0 l0_1 = some r) ∧ Aside0 (kq ≤ k3) ∧ Aside0 (Kd.N (Kd.slice 2 (Kd.int .i64)) 22 w' w.heap.size (fun k_ => (w.heap.size ≤ k_) ∧ some k_ ≠ (u10 : Value).ownBlock ∧ k_ ≠ gb123) u8 x8_2) ∧ Aside0 (Kd.R (Kd.int .i64) 2 w' w.heap.size (fun k_ => (w.heap.size ≤ k_)) u10 x10_3) ∧ Aside0 (w'.heap[gb123]? = some (.cells #[.int .i64 a0_0, (.slice A0_1 l0_1.length c0_1)] 29 (0, 0))) ∧ Aside0 (Below w.heap.size w w'))
         case atStart => exact ⟨(0), (0), zs, zs, H', ⟨Nat.le_refl _⟩, ⟨zPN HO_8.out⟩, ⟨zP HO_10.out⟩, ⟨zR BK123.out⟩, ⟨zT HB.out GE123.out⟩⟩
         case round =>
          clear H'
          try clear c1
          try clear c4
          try clear c5
          try clear c8
          try clear c9
          try clear c14
          try clear c17
          try clear hcz5_0
          try clear hcz5_1
          try clear hfz5_0
          try clear hfz5_1
          obtain ⟨x12_4, x13_4, rfl, rfl, HA, HK4, HO_8, HO_10, BK123, HB⟩ := hrel
          cases gk with
          | zero => exact absurd HA.out (by simp [spec_l06Tails.l3])
          | succ k4 =>
           have H := HA.out
           clear HA
           simp only [spec_l06Tails.l3] at H
           by_cases c18 : x13_4 < a0_0
           ·rw [if_pos c18] at H
            have c18b0 : decide (x13_4 < a0_0) = true := decide_eq_true c18
            clear c18
            obtain ⟨t146, A19, H⟩ := zb H
            try dsimp only at H
            by_cases c20 : t146 = true
            ·subst c20
             rw [if_pos rfl] at H
             have H' := zA H
             clear H
             obtain ⟨hcz21_0, hcz21_1, hfz21_0, hfz21_1⟩ := zB3 BK123.out
             go_wp2_with (first | (refine zO (some 47) Tryd.func47 #[.int .i64 x11_3, .int .i64 x13_4] ?_; (with_reducible refine (spec_l01Bit.calls x11_3 x13_4 true _ A19.out).mono ?_); rintro e w' ⟨rfl, ⟨nd, rfl⟩⟩; refine ⟨_, rfl, ?_⟩))
             go_roundg k4
             case measure => have := HK1.out; have := HK2.out; have := HK3.out; have := HK4.out; omega
             case rel => exact ⟨(x12_4), (wrap64 (x13_4 + 1)), zs, zs, H', ⟨by have := HK1.out; have := HK2.out; have := HK3.out; have := HK4.out; omega⟩, ⟨zPN HO_8.out⟩, ⟨zP HO_10.out⟩, ⟨zR BK123.out⟩, ⟨zT HB.out GE123.out⟩⟩
            replace c20 := Bool.eq_false_iff.mpr c20
            subst c20
            rw [if_neg (show ¬ (false = true) by decide)] at H
            obtain ⟨ji22, hji22⟩ : ∃ j_ : Int, (wrap64 (x9_2 - 1)) = j_ := ⟨_, rfl⟩
            replace H : (if 0 ≤ (ji22) then (if (ji22) < (x8_2.length : Int) then ((spec_l06After.f a0_0 l0_1 x11_3 x13_4).bind fun t148 => (if 0 ≤ t148 then (if t148 < ((rd_L1 x8_2 (ji22)).length : Int) then (spec_l06Tails.l3 k4 a1 t124 x8_2 x9_2 x10_3 x11_3 (wrap64 (x12_4 + (rd (rd_L1 x8_2 (ji22)) t148))) (wrap64 (x13_4 + 1)) a0_0 l0_1) else (none)) else (none))) else (none)) else (none)) = some r := by first | (rw [hji22] at H; exact H) | (simp only [hji22] at H ⊢; exact H)
            (try rw [hji22] at A19)
            have hji22w : (IntKind.i64.wrap (x9_2 - 1)) = ji22 := (i64_w _).trans hji22
            by_cases c23 : 0 ≤ (ji22)
            ·rw [if_pos c23] at H
             have c23b0 : decide (0 ≤ (ji22)) = true := decide_eq_true c23
             clear c23
             by_cases c24 : (ji22) < (x8_2.length : Int)
             ·rw [if_pos c24] at H
              have c24b0 : decide ((ji22) < (x8_2.length : Int)) = true := decide_eq_true c24
              clear c24
              obtain ⟨t148, A25, H⟩ := zb H
              try dsimp only at H
              by_cases c26 : 0 ≤ t148
              ·rw [if_pos c26] at H
               have c26b0 : decide (0 ≤ t148) = true := decide_eq_true c26
               clear c26
               by_cases c27 : t148 < ((rd_L1 x8_2 (ji22)).length : Int)
               ·rw [if_pos c27] at H
                have c27b0 : decide (t148 < ((rd_L1 x8_2 (ji22)).length : Int)) = true := decide_eq_true c27
                clear c27
                have H' := zA H
                clear H
                obtain ⟨hcz28_0, hcz28_1, hfz28_0, hfz28_1⟩ := zB3 BK123.out
                try go_wp2_with (first | (refine zO (some 47) Tryd.func47 #[.int .i64 x11_3, .int .i64 x13_4] ?_; (with_reducible refine (spec_l01Bit.calls x11_3 x13_4 false _ A19.out).mono ?_); rintro e w' ⟨rfl, ⟨nd, rfl⟩⟩; refine ⟨_, rfl, ?_⟩))
                (try (rw [drewN_self wr]; generalize hq_ : World.drewN wr _ = wr; have n0_ : Aside0 (Kd.R (Kd.int .i64) 2 wr w.heap.size (fun k_ => (w.heap.size ≤ k_)) u10 x10_3) := ⟨by rw [← hq_]; exact (zP HO_10.out)⟩; have n1_ : Aside0 (Kd.N (Kd.slice 2 (Kd.int .i64)) 22 wr w.heap.size (fun k_ => (w.heap.size ≤ k_) ∧ some k_ ≠ (u10 : Value).ownBlock ∧ k_ ≠ gb123) u8 x8_2) := ⟨by rw [← hq_]; exact (zPN HO_8.out)⟩; have n2_ : Aside0 (wr.heap[gb123]? = some (.cells #[.int .i64 a0_0, .slice A0_1 l0_1.length c0_1] 29 (0, 0))) := ⟨by rw [← hq_]; exact (zR BK123.out)⟩; have n3_ : Aside0 (Below w.heap.size w wr) := ⟨by rw [← hq_]; exact (zT HB.out GE123.out)⟩; clear HO_10 HO_8 BK123 HB hq_; have HO_10 := n0_; have HO_8 := n1_; have BK123 := n2_; have HB := n3_; clear n0_ n1_ n2_ n3_))
                replace HO_8 := zA (Kd.N_drew HO_8.out)
                replace HO_10 := zA (zH HO_10.out)
                replace BK123 := zA (zK BK123.out)
                replace HB := zA (zD HB.out)
                obtain ⟨Ao30, co30, eo30⟩ := Kd.N_slice HO_8.out
                (first | subst eo30 | (injection eo30 with f1_ f2_ f3_; have f4_ := f1_.symm; have f5_ := f3_.symm; clear f1_ f2_ f3_; subst f4_; subst f5_))
                have p147 : 0 ≤ ((ji22) : Int) := zd
                have q147 : (ji22) < (x8_2.length : Int) := zd
                obtain ⟨ad147, A147_0, c147_0, e147, hx147_0, hl147_0, hi147_0⟩ := at_L1 (Kd.N_reads' HO_8.out).2.2 (ji22) p147 q147
                cases e147
                obtain ⟨ce147, hce147, hMe147, hcc147⟩ := Kd.N_get HO_8.out [] (ji22) p147 (by first | exact q147 | exact zd | (have e_ := (Kd.N_reads' HO_8.out).1; omega))
                obtain ⟨ua147_0, uc147_0, rfl, ul147_0, ge147_0⟩ := Kd.FK_slice_open hMe147
                have hv147_0 := hcc147 0 _ rfl
                rw [Nat.add_zero, show ((Kd.slice 2 (Kd.int .i64))).sz = 1 from rfl, Nat.mul_one] at hv147_0
                replace hv147_0 := Option.some.inj (hv147_0.symm.trans hx147_0)
                injection hv147_0 with hva_ hvn_ hvc_
                rw [hva_] at ge147_0
                rw [hvc_] at ul147_0
                have HL147_0 := zA (show Kd.V (Kd.int .i64) 2 _ w.heap.size _ _ (rd_L1 x8_2 (ji22)) from Kd.V_mk ul147_0 ge147_0)
                clear hva_ hvn_ hvc_ ge147_0 ul147_0 hcc147 hce147
                have HR147_0 := zA hi147_0
                have HC147_0 := zA hl147_0
                clear hi147_0 hl147_0
                replace p147 := eq_true p147
                replace q147 := eq_true q147
                have p149 : 0 ≤ (t148 : Int) := zd
                have q149 : t148 < ((rd_L1 x8_2 (ji22)).length : Int) := zd
                obtain ⟨ad149, e149, hx149_0⟩ := Kd.at_int (by repeat (first | (with_reducible exact HR147_0.out) | (with_reducible refine Kd.C_alloc ?_ _) | (with_reducible refine Kd.C_drewN ?_ _) | (with_reducible refine Kd.C_drew ?_) | exact HR147_0.out)) t148 p149 q149
                cases e149
                replace p149 := eq_true p149
                replace q149 := eq_true q149
                refine start_ (n := 14) (S := fun w' => w'.cell? ⟨gb123, 0, none⟩ = some (.int .i64 a0_0) ∧ w'.cell? ⟨gb123, 1, none⟩ = some (.slice A0_1 l0_1.length c0_1) ∧ w'.cell? (ad147.add ((ji22)).toNat) = some (.slice (some ad149) (rd_L1 x8_2 (ji22)).length c147_0) ∧ w'.cell? (ad149.add (t148).toNat) = some (.int .i64 (rd (rd_L1 x8_2 (ji22)) t148))) (ds := []) #[false, false, false, false, false, false, false, false, false, false, false, false, false, false] (by kernel_rfl) rfl rfl ⟨(kV BK123.out 0).trans rfl, (kV BK123.out 1).trans rfl, hx147_0, hx149_0⟩ (fun hHeld => ?_); refine with_tabW spec_l06Tails.tab20 spec_l06Tails.bits20 (fun HT_ HW_ => ?_)
                generalize wr.drew = w29 at HO_8 HO_10 BK123 HB HL147_0 HR147_0 hx147_0 hx149_0 hHeld ⊢
                refine zp 0 (some 49) #[true, false, false, false, false, false, false, false, false, false, false, false, false, false] HT_.out ?_
                refine zp 1 (some 50) #[true, true, false, false, false, false, false, false, false, false, false, false, false, false] HT_.out ?_
                refine zp 2 (some 51) #[true, true, true, false, false, false, false, false, false, false, false, false, false, false] HT_.out ?_
                refine zp 3 (some 52) #[true, true, true, true, false, false, false, false, false, false, false, false, false, false] HT_.out ?_
                refine zp 4 (some 53) #[true, true, true, true, true, false, false, false, false, false, false, false, false, false] HT_.out ?_
                refine zp 7 (some 56) #[true, true, true, true, true, false, false, true, false, false, false, false, false, false] HT_.out ?_
                refine zp 8 (some 57) #[true, true, true, true, true, false, false, true, true, false, false, false, false, false] HT_.out ?_
                refine zf 5 (some 54) #[true, true, true, true, true, true, false, true, true, false, false, false, false, false] HT_.out HW_.out hHeld ?_
                refine zf 6 (some 55) #[true, true, true, true, true, true, true, true, true, false, false, false, false, false] HT_.out HW_.out hHeld ?_
                refine one_ (i := 9) (N := some 58) #[true, true, true, true, true, true, true, true, true, true, false, false, false, false] rfl rfl (one_of HT_.out (by kernel_rfl)) (by decide) (fun K hK => ?_)
                refine goes_ Tryd.func48 (by kernel_rfl) rfl #[.agg #[.int .i64 a0_0, .slice A0_1 l0_1.length c0_1], .int .i64 x11_3, .int .i64 x13_4] (by rfl) rfl rfl zg ?_
                with_reducible refine (spec_l06After.calls a0_0 _ _ l0_1 x11_3 x13_4 t148 _ ?side1 ?side2 A25.out).mono ?_
                (case side1 => exact zS (kO HR0_1.out HB.out))
                (case side2 => exact HC0_1.out)
                rintro e w31 ⟨rfl, hb⟩
                have HS2_ := (hb.cell (jG _ _ (hHeld.2.2.1))).trans (hHeld.2.2.1)
                have HS3_ := (hb.cell (jG _ _ (hHeld.2.2.2))).trans (hHeld.2.2.2)
                refine ⟨_, rfl, ?_⟩
                replace HO_8 := zA (kZ (zPN HO_8.out) hb)
                replace HO_10 := zA (kL (zP HO_10.out) hb)
                replace HL147_0 := zA (kG (zPV HL147_0.out) hb)
                replace BK123 := zA (zB1 BK123.out hb)
                replace HR147_0 := zA (kO (by repeat (first | (with_reducible exact HR147_0.out) | (with_reducible refine Kd.C_alloc ?_ _) | (with_reducible refine Kd.C_drewN ?_ _) | (with_reducible refine Kd.C_drew ?_) | exact HR147_0.out)) hb)
                replace HB := zA (kQ (zT HB.out GE123.out) hb)
                (try clear hb)
                (try clear hb2)
                (try clear hk)
                (try clear hi)
                (try clear hgw)
                refine hK.out _ _ ⟨(kV BK123.out 0).trans rfl, (kV BK123.out 1).trans rfl, HS2_, HS3_⟩ (fun hHeld => ?_)
                clear hK K
                refine norm_ (a' := ?_) ?_ ?_
                rotate_left
                ·show Act.put _ (some 58) _ = _
                 simp only [Act.put, zL, zM, zN, i64_w, i32_w]
                 rfl
                refine zp 10 (some 59) #[true, true, true, true, true, true, true, true, true, true, true, false, false, false] HT_.out ?_
                refine zf 11 (some 60) #[true, true, true, true, true, true, true, true, true, true, true, true, false, false] HT_.out HW_.out hHeld ?_
                refine zp 12 (some 61) #[true, true, true, true, true, true, true, true, true, true, true, true, true, false] HT_.out ?_
                refine zp 13 (some 12) #[true, true, true, true, true, true, true, true, true, true, true, true, true, true] HT_.out ?_
                refine done_ (done_of HT_.out (by kernel_rfl)) ?_
                try go_wp2
                go_roundg k4
                case measure => have := HK1.out; have := HK2.out; have := HK3.out; have := HK4.out; omega
                case rel => exact ⟨(wrap64 (x12_4 + (rd (rd_L1 x8_2 (ji22)) t148))), (wrap64 (x13_4 + 1)), (by first | rfl | (simp; done) | (simp only [← hji22] <;> (first | rfl | simp)) | (simp [*]; done)), zs, H', ⟨by have := HK1.out; have := HK2.out; have := HK3.out; have := HK4.out; omega⟩, ⟨zPN HO_8.out⟩, ⟨zP HO_10.out⟩, ⟨zR BK123.out⟩, ⟨zT HB.out GE123.out⟩⟩
               rw [if_neg c27] at H
               exact absurd H (by simp)
              rw [if_neg c26] at H
              exact absurd H (by simp)
             rw [if_neg c24] at H
             exact absurd H (by simp)
            rw [if_neg c23] at H
            exact absurd H (by simp)
           rw [if_neg c18] at H
           have c18b0 : decide (x13_4 < a0_0) = false := decide_eq_false c18
           clear c18
           by_cases c32 : x12_4 > 1000000000000000
           ·rw [if_pos c32] at H
            have c32b0 : decide (1000000000000000 < x12_4) = true := decide_eq_true c32
            clear c32
            by_cases c33 : x10_3.length < 17592186044416
            ·rw [if_pos c33] at H
             have LMc33 := zA c33
             clear c33
             obtain ⟨y140, hy140⟩ : ∃ y_ : List Int, y_ = (x10_3 ++ [1000000000000001]) := ⟨_, rfl⟩
             replace H : (spec_l06Tails.l2 k4 a1 t124 x8_2 x9_2 y140 (wrap64 (x11_3 + 1)) a0_0 l0_1) = some r := zy hy140 H
             have Ny140 := zA hy140
             clear hy140
             have H' := zA H
             clear H
             obtain ⟨hcz34_0, hcz34_1, hfz34_0, hfz34_1⟩ := zB3 BK123.out
             go_wp2_with (first | ((with_reducible refine gate_builtin (b := .append) (xs := #[.tmp 64, .tmp 66]) rfl ?_); at_builtin; refine Kd.R_append (Kd.int .i64) (w0 := w) w.heap.size rfl (.tmp 64) (.tmp 66) 22 2 (.int .i64 0) 8 rfl Tryd.underlying22 info2 rfl (by decide) (by omega) u10 x10_3 1000000000000001 [.int .i64 1000000000000001] (fun k_ => (w.heap.size ≤ k_)) (fun _ => False) rfl rfl ?aP (fun _ hk => hk.elim) ?aF ?aO ?aB ?aS ?aL ?_; (case aP => exact rfl); (case aB => exact (zT HB.out GE123.out)); (case aF => exact (fun k_ hk => (Nat.le_trans (kP (zT HB.out GE123.out)) hk))); (case aO => exact (zP HO_10.out)); (case aS => exact (kP (zT HB.out GE123.out))); (case aL => have := LMc33.out; omega); intro v141 w35 ho hb hg hat; rw [← Ny140.out] at ho; replace HO_8 := zA (Kd.N_afterv (ok := (fun k_ => (w.heap.size ≤ k_) ∧ k_ ≠ gb123)) (by (with_reducible repeat (first | apply Kd.N_alloc | apply Kd.N_drewN | apply Kd.N_drew)); exact Kd.N_mono HO_8.out (fun _ hk => ⟨⟨hk.1, hk.2.2⟩, hk.2.1⟩)) hg hat); replace BK123 := zA (blk_grown (g := gb123) (o := .cells #[.int .i64 a0_0, .slice A0_1 l0_1.length c0_1] 29 (0, 0)) (zR BK123.out) hg (Kd.R_ne HO_10.out BK123.out (by decide))); replace HB := zA (hb); have HO142 := zA (ho); clear HO_10; clear ho hb hg hat))
             go_roundg k4
             case measure => have := HK1.out; have := HK2.out; have := HK3.out; have := HK4.out; omega
             case rel => exact ⟨(y140), (wrap64 (x11_3 + 1)), zs, H', ⟨by have := HK1.out; have := HK2.out; have := HK3.out; have := HK4.out; omega⟩, ⟨by (with_reducible repeat (first | apply Kd.N_alloc | apply Kd.N_drewN | apply Kd.N_drew)); exact Kd.N_mono HO_8.out (fun _ hk => ⟨hk.1.1, ⟨hk.2, hk.1.2⟩⟩)⟩, ⟨zP HO142.out⟩, ⟨zR BK123.out⟩, ⟨zT HB.out GE123.out⟩⟩
            rw [if_neg c33] at H
            exact absurd H (by simp)
           rw [if_neg c32] at H
           have c32b0 : decide (1000000000000000 < x12_4) = false := decide_eq_false c32
           clear c32
           by_cases c36 : x10_3.length < 17592186044416
           ·rw [if_pos c36] at H
            have LMc36 := zA c36
            clear c36
            obtain ⟨y143, hy143⟩ : ∃ y_ : List Int, y_ = (x10_3 ++ [x12_4]) := ⟨_, rfl⟩
            replace H : (spec_l06Tails.l2 k4 a1 t124 x8_2 x9_2 y143 (wrap64 (x11_3 + 1)) a0_0 l0_1) = some r := zy hy143 H
            have Ny143 := zA hy143
            clear hy143
            have H' := zA H
            clear H
            obtain ⟨hcz37_0, hcz37_1, hfz37_0, hfz37_1⟩ := zB3 BK123.out
            go_wp2_with (first | ((with_reducible refine gate_builtin (b := .append) (xs := #[.tmp 64, .tmp 66]) rfl ?_); at_builtin; refine Kd.R_append (Kd.int .i64) (w0 := w) w.heap.size rfl (.tmp 64) (.tmp 66) 22 2 (.int .i64 0) 8 rfl Tryd.underlying22 info2 rfl (by decide) (by omega) u10 x10_3 x12_4 [.int .i64 x12_4] (fun k_ => (w.heap.size ≤ k_)) (fun _ => False) rfl rfl ?aP (fun _ hk => hk.elim) ?aF ?aO ?aB ?aS ?aL ?_; (case aP => exact rfl); (case aB => exact (zT HB.out GE123.out)); (case aF => exact (fun k_ hk => (Nat.le_trans (kP (zT HB.out GE123.out)) hk))); (case aO => exact (zP HO_10.out)); (case aS => exact (kP (zT HB.out GE123.out))); (case aL => have := LMc36.out; omega); intro v144 w38 ho hb hg hat; rw [← Ny143.out] at ho; replace HO_8 := zA (Kd.N_afterv (ok := (fun k_ => (w.heap.size ≤ k_) ∧ k_ ≠ gb123)) (by (with_reducible repeat (first | apply Kd.N_alloc | apply Kd.N_drewN | apply Kd.N_drew)); exact Kd.N_mono HO_8.out (fun _ hk => ⟨⟨hk.1, hk.2.2⟩, hk.2.1⟩)) hg hat); replace BK123 := zA (blk_grown (g := gb123) (o := .cells #[.int .i64 a0_0, .slice A0_1 l0_1.length c0_1] 29 (0, 0)) (zR BK123.out) hg (Kd.R_ne HO_10.out BK123.out (by decide))); replace HB := zA (hb); have HO145 := zA (ho); clear HO_10; clear ho hb hg hat))
            go_roundg k4
            case measure => have := HK1.out; have := HK2.out; have := HK3.out; have := HK4.out; omega
            case rel => exact ⟨(y143), (wrap64 (x11_3 + 1)), zs, H', ⟨by have := HK1.out; have := HK2.out; have := HK3.out; have := HK4.out; omega⟩, ⟨by (with_reducible repeat (first | apply Kd.N_alloc | apply Kd.N_drewN | apply Kd.N_drew)); exact Kd.N_mono HO_8.out (fun _ hk => ⟨hk.1.1, ⟨hk.2, hk.1.2⟩⟩)⟩, ⟨zP HO145.out⟩, ⟨zR BK123.out⟩, ⟨zT HB.out GE123.out⟩⟩
           rw [if_neg c36] at H
           exact absurd H (by simp)
        rw [if_neg c17] at H
        have c17b0 : decide (x11_3 < t124) = false := decide_eq_false c17
        clear c17
        by_cases c39 : x8_2.length < 5864062014805
        ·rw [if_pos c39] at H
         have LMc39 := zA c39
         clear c39
         obtain ⟨y137, hy137⟩ : ∃ y_ : List (List Int), y_ = (x8_2 ++ [x10_3]) := ⟨_, rfl⟩
         replace H : (spec_l06Tails.l1 k3 a1 t124 y137 (wrap64 (x9_2 + 1)) a0_0 l0_1) = some r := zy hy137 H
         have Ny137 := zA hy137
         clear hy137
         have H' := zA H
         clear H
         obtain ⟨Ao41, co41, eo41⟩ := kM HO_10.out
         subst eo41
         go_wp2_with (first | ((with_reducible refine gate_builtin (b := .append) (xs := #[.tmp 68, .tmp 70]) rfl ?_); at_builtin; refine Kd.N_append (Kd.slice 2 (Kd.int .i64)) (w0 := w) w.heap.size rfl (.tmp 68) (.tmp 70) 26 22 (.slice none 0 0) 24 rfl Tryd.underlying26 info22 rfl (by decide) (by omega) u8 x8_2 x10_3 [.slice Ao41 x10_3.length co41] (fun k_ => (w.heap.size ≤ k_) ∧ k_ ≠ gb123) (fun k_ => ((fun k_ => (w.heap.size ≤ k_) ∧ k_ ≠ gb123)) k_ ∧ some k_ ≠ (u8 : Value).ownBlock) rfl rfl ?aP (fun _ hk => hk) ?aF ?aO ?aB ?aS ?aL ?_; (case aP => exact (Kd.FK_slice_mk (kB (kA (ok' := (fun k_ => ((fun k_ => (w.heap.size ≤ k_) ∧ k_ ≠ gb123)) k_ ∧ some k_ ≠ (u8 : Value).ownBlock)) (kD (Kd.R_apart' (HO_10.out) (Kd.N_typed HO_8.out) (by decide)) BK123.out (by decide)) (fun k_ hk => ⟨⟨hk.1.1, hk.2⟩, hk.1.2⟩))).2.1 (Kd.R_F (kA (ok' := (fun k_ => ((fun k_ => (w.heap.size ≤ k_) ∧ k_ ≠ gb123)) k_ ∧ some k_ ≠ (u8 : Value).ownBlock)) (kD (Kd.R_apart' (HO_10.out) (Kd.N_typed HO_8.out) (by decide)) BK123.out (by decide)) (fun k_ hk => ⟨⟨hk.1.1, hk.2⟩, hk.1.2⟩))))); (case aB => exact (zT HB.out GE123.out)); (case aF => exact (fun k_ hk => ⟨(Nat.le_trans (kP (zT HB.out GE123.out)) hk), jE (g := gb123) (o := .cells #[.int .i64 a0_0, .slice A0_1 l0_1.length c0_1] 29 (0, 0)) (zR BK123.out) k_ hk⟩)); (case aO => exact (by (with_reducible repeat (first | apply Kd.N_alloc | apply Kd.N_drewN | apply Kd.N_drew)); exact Kd.N_mono HO_8.out (fun _ hk => ⟨hk.1, hk.2.2⟩))); (case aS => exact (kP (zT HB.out GE123.out))); (case aL => have := LMc39.out; omega); intro v138 w40 ho hb hg hat; rw [← Ny137.out] at ho; replace BK123 := zA (blk_grown (g := gb123) (o := .cells #[.int .i64 a0_0, .slice A0_1 l0_1.length c0_1] 29 (0, 0)) (zR BK123.out) hg (Kd.N_ne HO_8.out BK123.out (by decide))); replace HB := zA (hb); have HO139 := zA (ho); clear HO_8 HO_10; clear ho hb hg hat))
         go_roundg k3
         case measure => have := HK1.out; have := HK2.out; have := HK3.out; omega
         case rel => exact ⟨(y137), (wrap64 (x9_2 + 1)), zs, H', ⟨by have := HK1.out; have := HK2.out; have := HK3.out; omega⟩, ⟨zPN HO139.out⟩, ⟨zR BK123.out⟩, ⟨zT HB.out GE123.out⟩⟩
        rw [if_neg c39] at H
        exact absurd H (by simp)
     rw [if_neg c14] at H
     have c14b0 : decide (x9_2 ≤ a1) = false := decide_eq_false c14
     clear c14
     obtain rfl := Option.some.inj H
     go_wp2
     go_ret
     exact ⟨_, zr, by (with_reducible repeat (first | apply Kd.N_alloc | apply Kd.N_drewN | apply Kd.N_drew)); exact Kd.N_mono HO_8.out (fun _ hk => hk.1), zT HB.out GE123.out⟩

/-! ### spec_l06Many: function 34 -/
def spec_l06Many.f (k : Nat) (a0_0 : Int) (l0_1 : List Int) (a1 : Int) : Option (Int) := (spec_l06Tails.f k a0_0 l0_1 a1).bind fun t151 => (if 0 ≤ a1 then (if a1 < (t151.length : Int) then (if 0 < ((rd_L1 t151 a1).length : Int) then (if (rd (rd_L1 t151 a1) 0) > 1000000000000000 then (some 3) else (some 0)) else (none)) else (none)) else (none))

set_option maxHeartbeats 8000000 in
set_option maxRecDepth 100000 in
theorem spec_l06Many.calls (k : Nat) (a0_0 : Int) (A0_1 : Option Addr) (c0_1 : Nat) (l0_1 : List Int) (a1 : Int) (r : Int) (w : World) (hr0_1 : Kd.C (Kd.int .i64) w A0_1 l0_1.length l0_1) (hc0_1 : l0_1.length ≤ c0_1) (h : spec_l06Many.f k a0_0 l0_1 a1 = some r) :
  Calls Tryd.prog 34 #[.agg #[.int .i64 a0_0, .slice A0_1 l0_1.length c0_1], .int .i64 a1] w fun e w' => e = .returned (.int .i64 r) ∧ Below w.heap.size w w' := by
 have hu29 := Tryd.underlying29
 have HR0_1 := zA hr0_1
 have HC0_1 := zA hc0_1
 clear hr0_1 hc0_1
 have HB := zA (kW w.heap.size w)
 have H := h
 unfold spec_l06Many.f at H
 clear h
 obtain ⟨t151, A3, H⟩ := zb H
 try dsimp only at H
 by_cases c4 : 0 ≤ a1
 ·rw [if_pos c4] at H
  have c4b0 : decide (0 ≤ a1) = true := decide_eq_true c4
  clear c4
  by_cases c5 : a1 < (t151.length : Int)
  ·rw [if_pos c5] at H
   have c5b0 : decide (a1 < (t151.length : Int)) = true := decide_eq_true c5
   clear c5
   by_cases c6 : 0 < ((rd_L1 t151 a1).length : Int)
   ·rw [if_pos c6] at H
    have c6b0 : decide (0 < ((rd_L1 t151 a1).length : Int)) = true := decide_eq_true c6
    have c6b1 : decide (0 < (rd_L1 t151 a1).length) = true := decide_eq_true (by omega)
    clear c6
    by_cases c7 : (rd (rd_L1 t151 a1) 0) > 1000000000000000
    ·rw [if_pos c7] at H
     have c7b0 : decide (1000000000000000 < (rd (rd_L1 t151 a1) 0)) = true := decide_eq_true c7
     clear c7
     obtain rfl := Option.some.inj H
     go_enter Tryd.func34, Tryd.ntmps34
     go_wp2_with (first | (refine zBE 2 #[.int .i64 a0_0, .slice A0_1 l0_1.length c0_1] 29 ?_; intro gb150 hg w8 hbox hb; have BK150 := zA (hbox); have GW150 := zA (zBH hg HB.out); have GE150 := zA (zBH hg HB.out); replace HB := zA (kQ (zQ HB.out) hb); clear hb hbox hg; obtain ⟨hcz9_0, hcz9_1, hfz9_0, hfz9_1⟩ := zB3 BK150.out) | (refine zO (some 7) Tryd.func45 #[.agg #[.int .i64 a0_0, .slice A0_1 l0_1.length c0_1], .int .i64 a1] ?_; (with_reducible refine (spec_l06Tails.calls k a0_0 _ _ l0_1 a1 t151 _ ?side1 ?side2 A3.out).mono ?_); (case side1 => exact zS (kO HR0_1.out HB.out)); (case side2 => exact HC0_1.out); rintro e w10 ⟨v152, rfl, ho0, hb⟩; refine ⟨_, rfl, ?_⟩; have HO153 := zA (jN (Kd.N_mono (ok' := fun k_ => k_ ≠ gb150) ho0 (fun k_ hk_ => (jE (g := gb150) (o := .cells #[.int .i64 a0_0, .slice A0_1 l0_1.length c0_1] 29 (0, 0)) (zR BK150.out) k_ hk_))) (kP (zT HB.out GE150.out))); replace BK150 := zA (zB1 BK150.out hb); replace HB := zA (kQ (zT HB.out GE150.out) hb); (try clear hb); (try clear ho0); obtain ⟨Ao11, co11, eo11⟩ := Kd.N_slice HO153.out; subst eo11; have p154 : 0 ≤ (a1 : Int) := zd; have q154 : a1 < (t151.length : Int) := zd; obtain ⟨ad154, A154_0, c154_0, e154, hx154_0, hl154_0, hi154_0⟩ := at_L1 (Kd.N_reads' HO153.out).2.2 a1 p154 q154; cases e154; obtain ⟨ce154, hce154, hMe154, hcc154⟩ := Kd.N_get HO153.out [] a1 p154 (by first | exact q154 | exact zd | (have e_ := (Kd.N_reads' HO153.out).1; omega)); obtain ⟨ua154_0, uc154_0, rfl, ul154_0, ge154_0⟩ := Kd.FK_slice_open hMe154; have hv154_0 := hcc154 0 _ rfl; rw [Nat.add_zero, show ((Kd.slice 2 (Kd.int .i64))).sz = 1 from rfl, Nat.mul_one] at hv154_0; replace hv154_0 := Option.some.inj (hv154_0.symm.trans hx154_0); injection hv154_0 with hva_ hvn_ hvc_; rw [hva_] at ge154_0; rw [hvc_] at ul154_0; have HL154_0 := zA (show Kd.V (Kd.int .i64) 2 _ w.heap.size _ _ (rd_L1 t151 a1) from Kd.V_mk ul154_0 ge154_0); clear hva_ hvn_ hvc_ ge154_0 ul154_0; clear hcc154 hce154; have HR154_0 := zA hi154_0; have HC154_0 := zA hl154_0; clear hi154_0 hl154_0; replace p154 := eq_true p154; replace q154 := eq_true q154; have p155 : 0 ≤ (0 : Int) := (by omega); have q155 : 0 < ((rd_L1 t151 a1).length : Int) := zd; obtain ⟨ad155, e155, hx155_0⟩ := Kd.at_int (by repeat (first | (with_reducible exact HR154_0.out) | (with_reducible refine Kd.C_alloc ?_ _) | (with_reducible refine Kd.C_drewN ?_ _) | (with_reducible refine Kd.C_drew ?_) | exact HR154_0.out)) 0 p155 q155; cases e155; have qi155 : (0 < (rd_L1 t151 a1).length) = True := eq_true (by omega); (try rw [show ((0 : Int)).toNat = 0 from rfl] at hx155_0); (try rw [Addr.add_zero'] at hx155_0); replace p155 := eq_true p155; replace q155 := eq_true q155))
     go_ret
     exact ⟨zr, zT HB.out GE150.out⟩
    rw [if_neg c7] at H
    have c7b0 : decide (1000000000000000 < (rd (rd_L1 t151 a1) 0)) = false := decide_eq_false c7
    clear c7
    obtain rfl := Option.some.inj H
    go_enter Tryd.func34, Tryd.ntmps34
    go_wp2_with (first | (refine zBE 2 #[.int .i64 a0_0, .slice A0_1 l0_1.length c0_1] 29 ?_; intro gb150 hg w12 hbox hb; have BK150 := zA (hbox); have GW150 := zA (zBH hg HB.out); have GE150 := zA (zBH hg HB.out); replace HB := zA (kQ (zQ HB.out) hb); clear hb hbox hg; obtain ⟨hcz13_0, hcz13_1, hfz13_0, hfz13_1⟩ := zB3 BK150.out) | (refine zO (some 7) Tryd.func45 #[.agg #[.int .i64 a0_0, .slice A0_1 l0_1.length c0_1], .int .i64 a1] ?_; (with_reducible refine (spec_l06Tails.calls k a0_0 _ _ l0_1 a1 t151 _ ?side1 ?side2 A3.out).mono ?_); (case side1 => exact zS (kO HR0_1.out HB.out)); (case side2 => exact HC0_1.out); rintro e w14 ⟨v152, rfl, ho0, hb⟩; refine ⟨_, rfl, ?_⟩; have HO153 := zA (jN (Kd.N_mono (ok' := fun k_ => k_ ≠ gb150) ho0 (fun k_ hk_ => (jE (g := gb150) (o := .cells #[.int .i64 a0_0, .slice A0_1 l0_1.length c0_1] 29 (0, 0)) (zR BK150.out) k_ hk_))) (kP (zT HB.out GE150.out))); replace BK150 := zA (zB1 BK150.out hb); replace HB := zA (kQ (zT HB.out GE150.out) hb); (try clear hb); (try clear ho0); obtain ⟨Ao15, co15, eo15⟩ := Kd.N_slice HO153.out; subst eo15; have p154 : 0 ≤ (a1 : Int) := zd; have q154 : a1 < (t151.length : Int) := zd; obtain ⟨ad154, A154_0, c154_0, e154, hx154_0, hl154_0, hi154_0⟩ := at_L1 (Kd.N_reads' HO153.out).2.2 a1 p154 q154; cases e154; obtain ⟨ce154, hce154, hMe154, hcc154⟩ := Kd.N_get HO153.out [] a1 p154 (by first | exact q154 | exact zd | (have e_ := (Kd.N_reads' HO153.out).1; omega)); obtain ⟨ua154_0, uc154_0, rfl, ul154_0, ge154_0⟩ := Kd.FK_slice_open hMe154; have hv154_0 := hcc154 0 _ rfl; rw [Nat.add_zero, show ((Kd.slice 2 (Kd.int .i64))).sz = 1 from rfl, Nat.mul_one] at hv154_0; replace hv154_0 := Option.some.inj (hv154_0.symm.trans hx154_0); injection hv154_0 with hva_ hvn_ hvc_; rw [hva_] at ge154_0; rw [hvc_] at ul154_0; have HL154_0 := zA (show Kd.V (Kd.int .i64) 2 _ w.heap.size _ _ (rd_L1 t151 a1) from Kd.V_mk ul154_0 ge154_0); clear hva_ hvn_ hvc_ ge154_0 ul154_0; clear hcc154 hce154; have HR154_0 := zA hi154_0; have HC154_0 := zA hl154_0; clear hi154_0 hl154_0; replace p154 := eq_true p154; replace q154 := eq_true q154; have p155 : 0 ≤ (0 : Int) := (by omega); have q155 : 0 < ((rd_L1 t151 a1).length : Int) := zd; obtain ⟨ad155, e155, hx155_0⟩ := Kd.at_int (by repeat (first | (with_reducible exact HR154_0.out) | (with_reducible refine Kd.C_alloc ?_ _) | (with_reducible refine Kd.C_drewN ?_ _) | (with_reducible refine Kd.C_drew ?_) | exact HR154_0.out)) 0 p155 q155; cases e155; have qi155 : (0 < (rd_L1 t151 a1).length) = True := eq_true (by omega); (try rw [show ((0 : Int)).toNat = 0 from rfl] at hx155_0); (try rw [Addr.add_zero'] at hx155_0); replace p155 := eq_true p155; replace q155 := eq_true q155))
    go_ret
    exact ⟨zr, zT HB.out GE150.out⟩
   rw [if_neg c6] at H
   exact absurd H (by simp)
  rw [if_neg c5] at H
  exact absurd H (by simp)
 rw [if_neg c4] at H
 exact absurd H (by simp)

/-! ### spec_CountTraces: function 23 -/
def spec_CountTraces.f (k : Nat) (a0_0 : Int) (l0_1 : List Int) (a1 : Int) : Option (Int × Int) := (spec_l06Code.f k a0_0 l0_1 a1).bind fun t157 => (if t157 = 0 then ((spec_l06Many.f k a0_0 l0_1 a1).bind fun t158 => (if t158 = 0 then ((spec_l06Tails.f k a0_0 l0_1 a1).bind fun t159 => (if 0 ≤ a1 then (if a1 < (t159.length : Int) then (if 0 < ((rd_L1 t159 a1).length : Int) then (some (rd (rd_L1 t159 a1) 0, 0)) else (none)) else (none)) else (none))) else (some (0, t158)))) else (some (0, t157)))

set_option maxHeartbeats 8000000 in
set_option maxRecDepth 100000 in
theorem spec_CountTraces.calls (k : Nat) (a0_0 : Int) (A0_1 : Option Addr) (c0_1 : Nat) (l0_1 : List Int) (a1 : Int) (r1 : Int) (r2 : Int) (w : World) (hr0_1 : Kd.C (Kd.int .i64) w A0_1 l0_1.length l0_1) (hc0_1 : l0_1.length ≤ c0_1) (h : spec_CountTraces.f k a0_0 l0_1 a1 = some (r1, r2)) :
  Calls Tryd.prog 23 #[.agg #[.int .i64 a0_0, .slice A0_1 l0_1.length c0_1], .int .i64 a1] w fun e w' => e = .returned (.tuple #[.int .i64 r1, .int .i64 r2]) ∧ Below w.heap.size w w' := by
 have hu29 := Tryd.underlying29
 have HR0_1 := zA hr0_1
 have HC0_1 := zA hc0_1
 clear hr0_1 hc0_1
 have HB := zA (kW w.heap.size w)
 have H := h
 unfold spec_CountTraces.f at H
 clear h
 obtain ⟨t157, A3, H⟩ := zb H
 try dsimp only at H
 by_cases c4 : t157 = 0
 ·rw [if_pos c4] at H
  obtain ⟨c4b0, c4b1⟩ := zT1 c4
  clear c4
  obtain ⟨t158, A5, H⟩ := zb H
  try dsimp only at H
  by_cases c6 : t158 = 0
  ·rw [if_pos c6] at H
   obtain ⟨c6b0, c6b1⟩ := zT1 c6
   clear c6
   obtain ⟨t159, A7, H⟩ := zb H
   try dsimp only at H
   by_cases c8 : 0 ≤ a1
   ·rw [if_pos c8] at H
    have c8b0 : decide (0 ≤ a1) = true := decide_eq_true c8
    clear c8
    by_cases c9 : a1 < (t159.length : Int)
    ·rw [if_pos c9] at H
     have c9b0 : decide (a1 < (t159.length : Int)) = true := decide_eq_true c9
     clear c9
     by_cases c10 : 0 < ((rd_L1 t159 a1).length : Int)
     ·rw [if_pos c10] at H
      have c10b0 : decide (0 < ((rd_L1 t159 a1).length : Int)) = true := decide_eq_true c10
      have c10b1 : decide (0 < (rd_L1 t159 a1).length) = true := decide_eq_true (by omega)
      clear c10
      simp only [Option.some.injEq, Prod.mk.injEq] at H
      obtain ⟨rfl, rfl⟩ := H
      go_enter Tryd.func23, Tryd.ntmps23
      go_wp2_with (first | (refine zBE 2 #[.int .i64 a0_0, .slice A0_1 l0_1.length c0_1] 29 ?_; intro gb156 hg w11 hbox hb; have BK156 := zA (hbox); have GW156 := zA (zBH hg HB.out); have GE156 := zA (zBH hg HB.out); replace HB := zA (kQ (zQ HB.out) hb); clear hb hbox hg; obtain ⟨hcz12_0, hcz12_1, hfz12_0, hfz12_1⟩ := zB3 BK156.out) | (refine zO (some 9) Tryd.func31 #[.agg #[.int .i64 a0_0, .slice A0_1 l0_1.length c0_1], .int .i64 a1] ?_; (with_reducible refine (spec_l06Code.calls k a0_0 _ _ l0_1 a1 t157 _ ?side1 ?side2 A3.out).mono ?_); (case side1 => exact zS (kO HR0_1.out HB.out)); (case side2 => exact HC0_1.out); rintro e w13 ⟨rfl, hb⟩; refine ⟨_, rfl, ?_⟩; replace BK156 := zA (zB1 BK156.out hb); replace HB := zA (kQ (zT HB.out GE156.out) hb); (try clear hb); obtain ⟨hcz14_0, hcz14_1, hfz14_0, hfz14_1⟩ := zB3 BK156.out) | (refine zO (some 14) Tryd.func34 #[.agg #[.int .i64 a0_0, .slice A0_1 l0_1.length c0_1], .int .i64 a1] ?_; (with_reducible refine (spec_l06Many.calls k a0_0 _ _ l0_1 a1 t158 _ ?side1 ?side2 A5.out).mono ?_); (case side1 => exact zS (kO HR0_1.out HB.out)); (case side2 => exact HC0_1.out); rintro e w15 ⟨rfl, hb⟩; refine ⟨_, rfl, ?_⟩; replace BK156 := zA (zB1 BK156.out hb); replace HB := zA (kQ (zT HB.out GE156.out) hb); (try clear hb); obtain ⟨hcz16_0, hcz16_1, hfz16_0, hfz16_1⟩ := zB3 BK156.out) | (refine zO (some 20) Tryd.func45 #[.agg #[.int .i64 a0_0, .slice A0_1 l0_1.length c0_1], .int .i64 a1] ?_; (with_reducible refine (spec_l06Tails.calls k a0_0 _ _ l0_1 a1 t159 _ ?side1 ?side2 A7.out).mono ?_); (case side1 => exact zS (kO HR0_1.out HB.out)); (case side2 => exact HC0_1.out); rintro e w17 ⟨v160, rfl, ho0, hb⟩; refine ⟨_, rfl, ?_⟩; have HO161 := zA (jN (Kd.N_mono (ok' := fun k_ => k_ ≠ gb156) ho0 (fun k_ hk_ => (jE (g := gb156) (o := .cells #[.int .i64 a0_0, .slice A0_1 l0_1.length c0_1] 29 (0, 0)) (zR BK156.out) k_ hk_))) (kP (zT HB.out GE156.out))); replace BK156 := zA (zB1 BK156.out hb); replace HB := zA (kQ (zT HB.out GE156.out) hb); (try clear hb); (try clear ho0); obtain ⟨Ao18, co18, eo18⟩ := Kd.N_slice HO161.out; subst eo18; have p162 : 0 ≤ (a1 : Int) := zd; have q162 : a1 < (t159.length : Int) := zd; obtain ⟨ad162, A162_0, c162_0, e162, hx162_0, hl162_0, hi162_0⟩ := at_L1 (Kd.N_reads' HO161.out).2.2 a1 p162 q162; cases e162; obtain ⟨ce162, hce162, hMe162, hcc162⟩ := Kd.N_get HO161.out [] a1 p162 (by first | exact q162 | exact zd | (have e_ := (Kd.N_reads' HO161.out).1; omega)); obtain ⟨ua162_0, uc162_0, rfl, ul162_0, ge162_0⟩ := Kd.FK_slice_open hMe162; have hv162_0 := hcc162 0 _ rfl; rw [Nat.add_zero, show ((Kd.slice 2 (Kd.int .i64))).sz = 1 from rfl, Nat.mul_one] at hv162_0; replace hv162_0 := Option.some.inj (hv162_0.symm.trans hx162_0); injection hv162_0 with hva_ hvn_ hvc_; rw [hva_] at ge162_0; rw [hvc_] at ul162_0; have HL162_0 := zA (show Kd.V (Kd.int .i64) 2 _ w.heap.size _ _ (rd_L1 t159 a1) from Kd.V_mk ul162_0 ge162_0); clear hva_ hvn_ hvc_ ge162_0 ul162_0; clear hcc162 hce162; have HR162_0 := zA hi162_0; have HC162_0 := zA hl162_0; clear hi162_0 hl162_0; replace p162 := eq_true p162; replace q162 := eq_true q162; have p163 : 0 ≤ (0 : Int) := (by omega); have q163 : 0 < ((rd_L1 t159 a1).length : Int) := zd; obtain ⟨ad163, e163, hx163_0⟩ := Kd.at_int (by repeat (first | (with_reducible exact HR162_0.out) | (with_reducible refine Kd.C_alloc ?_ _) | (with_reducible refine Kd.C_drewN ?_ _) | (with_reducible refine Kd.C_drew ?_) | exact HR162_0.out)) 0 p163 q163; cases e163; have qi163 : (0 < (rd_L1 t159 a1).length) = True := eq_true (by omega); (try rw [show ((0 : Int)).toNat = 0 from rfl] at hx163_0); (try rw [Addr.add_zero'] at hx163_0); replace p163 := eq_true p163; replace q163 := eq_true q163))
      go_ret2
      exact ⟨zr, zT HB.out GE156.out⟩
     rw [if_neg c10] at H
     exact absurd H (by simp)
    rw [if_neg c9] at H
    exact absurd H (by simp)
   rw [if_neg c8] at H
   exact absurd H (by simp)
  rw [if_neg c6] at H
  obtain ⟨c6b0, c6b1⟩ := zT2 c6
  simp only [Option.some.injEq, Prod.mk.injEq] at H
  obtain ⟨rfl, rfl⟩ := H
  go_enter Tryd.func23, Tryd.ntmps23
  go_wp2_with (first | (refine zBE 2 #[.int .i64 a0_0, .slice A0_1 l0_1.length c0_1] 29 ?_; intro gb156 hg w19 hbox hb; have BK156 := zA (hbox); have GW156 := zA (zBH hg HB.out); have GE156 := zA (zBH hg HB.out); replace HB := zA (kQ (zQ HB.out) hb); clear hb hbox hg; obtain ⟨hcz20_0, hcz20_1, hfz20_0, hfz20_1⟩ := zB3 BK156.out) | (refine zO (some 9) Tryd.func31 #[.agg #[.int .i64 a0_0, .slice A0_1 l0_1.length c0_1], .int .i64 a1] ?_; (with_reducible refine (spec_l06Code.calls k a0_0 _ _ l0_1 a1 t157 _ ?side1 ?side2 A3.out).mono ?_); (case side1 => exact zS (kO HR0_1.out HB.out)); (case side2 => exact HC0_1.out); rintro e w21 ⟨rfl, hb⟩; refine ⟨_, rfl, ?_⟩; replace BK156 := zA (zB1 BK156.out hb); replace HB := zA (kQ (zT HB.out GE156.out) hb); (try clear hb); obtain ⟨hcz22_0, hcz22_1, hfz22_0, hfz22_1⟩ := zB3 BK156.out) | (refine zO (some 14) Tryd.func34 #[.agg #[.int .i64 a0_0, .slice A0_1 l0_1.length c0_1], .int .i64 a1] ?_; (with_reducible refine (spec_l06Many.calls k a0_0 _ _ l0_1 a1 t158 _ ?side1 ?side2 A5.out).mono ?_); (case side1 => exact zS (kO HR0_1.out HB.out)); (case side2 => exact HC0_1.out); rintro e w23 ⟨rfl, hb⟩; refine ⟨_, rfl, ?_⟩; replace BK156 := zA (zB1 BK156.out hb); replace HB := zA (kQ (zT HB.out GE156.out) hb); (try clear hb)))
  go_ret2
  exact ⟨zr, zT HB.out GE156.out⟩
 rw [if_neg c4] at H
 obtain ⟨c4b0, c4b1⟩ := zT2 c4
 simp only [Option.some.injEq, Prod.mk.injEq] at H
 obtain ⟨rfl, rfl⟩ := H
 go_enter Tryd.func23, Tryd.ntmps23
 go_wp2_with (first | (refine zBE 2 #[.int .i64 a0_0, .slice A0_1 l0_1.length c0_1] 29 ?_; intro gb156 hg w24 hbox hb; have BK156 := zA (hbox); have GW156 := zA (zBH hg HB.out); have GE156 := zA (zBH hg HB.out); replace HB := zA (kQ (zQ HB.out) hb); clear hb hbox hg; obtain ⟨hcz25_0, hcz25_1, hfz25_0, hfz25_1⟩ := zB3 BK156.out) | (refine zO (some 9) Tryd.func31 #[.agg #[.int .i64 a0_0, .slice A0_1 l0_1.length c0_1], .int .i64 a1] ?_; (with_reducible refine (spec_l06Code.calls k a0_0 _ _ l0_1 a1 t157 _ ?side1 ?side2 A3.out).mono ?_); (case side1 => exact zS (kO HR0_1.out HB.out)); (case side2 => exact HC0_1.out); rintro e w26 ⟨rfl, hb⟩; refine ⟨_, rfl, ?_⟩; replace BK156 := zA (zB1 BK156.out hb); replace HB := zA (kQ (zT HB.out GE156.out) hb); (try clear hb)))
 go_ret2
 exact ⟨zr, zT HB.out GE156.out⟩

/-! ### spec_l01Own: function 46 -/
def spec_l01Own.f (l0 : List Int) : Option (List Int) := (some (([] : List Int) : List Int)).bind fun y164 => (if y164.length + l0.length < 17592186044416 then (some (y164 ++ l0)) else (none))
set_option maxHeartbeats 8000000 in
set_option maxRecDepth 100000 in
theorem spec_l01Own.calls (A0 : Option Addr) (c0 : Nat) (l0 : List Int) (r : List Int) (w : World) (hr0 : Kd.C (Kd.int .i64) w A0 l0.length l0) (hc0 : l0.length ≤ c0) (h : spec_l01Own.f l0 = some r) :
  Calls Tryd.prog 46 #[.slice A0 l0.length c0] w fun e w' => ∃ v0_ : Value, e = .returned (v0_) ∧ Kd.R (Kd.int .i64) 2 w' w.heap.size (fun _ => True) v0_ r ∧ Below w.heap.size w w' := by
 have HR0 := zA hr0
 have HC0 := zA hc0
 clear hr0 hc0
 have HB := zA (kW w.heap.size w)
 have H := h
 unfold spec_l01Own.f at H
 clear h
 obtain ⟨y164, hy164⟩ : ∃ y_ : List Int, y_ = (([] : List Int)) := ⟨_, rfl⟩
 replace H : (if y164.length + l0.length < 17592186044416 then (some (y164 ++ l0)) else (none)) = some r := zy hy164 H
 have Ny164 := zA hy164
 clear hy164
 by_cases c2 : y164.length + l0.length < 17592186044416
 ·rw [if_pos c2] at H
  have LMc2 := zA c2
  clear c2
  obtain ⟨y167, hy167⟩ : ∃ y_ : List Int, y_ = (y164 ++ l0) := ⟨_, rfl⟩
  replace H : (some y167) = some r := zy hy167 H
  have Ny167 := zA hy167
  clear hy167
  obtain rfl := Option.some.inj H
  go_enter Tryd.func46, Tryd.ntmps46
  go_wp2_with (first | ((with_reducible refine kS (N := 3) rfl ?_); refine Kd.R_lit (Kd.int .i64) _ 2 ?hg (N := 3) ?hd (xs := ([] : List Int)) (inner := []) (ok := fun _ => True) (okp := fun _ => True) ?hr ?hp (fun _ hk => hk) trivial (kW _ _) (Nat.le_refl _) (by simp) ?_; (case hd => rfl); (case hg => rfl); (case hr => first | (go_simp; done) | (go_simp; rfl)); (case hp => exact (Reps.none _ _)); intro v165 w3 ho4 hb hg_ hnew_; clear hg_ hnew_; (first | rw [← Ny164.out] at ho4 | (simp only [Int.reduceToNat] at ho4; rw [← Ny164.out] at ho4)); have HO166 := zA (kI ho4 (kP (zQ HB.out))); replace HB := zA (kQ (zQ HB.out) hb); clear hb ho4) | ((with_reducible refine gate_builtin (b := .append) (xs := #[.tmp 3, .tmp 4]) rfl ?_); at_builtin; refine Kd.R_append_rows (Kd.int .i64) (w0 := w) w.heap.size rfl (.tmp 3) (.tmp 4) 22 2 (.int .i64 0) 8 rfl Tryd.underlying22 info2 rfl (by decide) (by omega) v165 y164 l0 _ _ _ (fun _ => True) (fun _ => False) rfl rfl ?aO ?aR (fun _ _ h => h) (fun _ h => h.elim) ?aF ?aB ?aS ?aL ?_; (case aR => exact zS (kO HR0.out HB.out)); (case aB => exact (zQ HB.out)); (case aF => exact (fun _ _ => trivial)); (case aO => exact (zP HO166.out)); (case aS => exact (kP (zQ HB.out))); (case aL => have := LMc2.out; omega); intro v168 w5 ho hb hg hat; rw [← Ny167.out] at ho; replace HB := zA (hb); have HO169 := zA (ho); clear HO166; clear ho hb hg hat))
  go_ret
  exact ⟨_, zr, zP HO169.out, zQ HB.out⟩
 rw [if_neg c2] at H
 exact absurd H (by simp)

-- NOT PRINTED: function 24 (spec_l06List)

/-! ### spec_TracesOfLength: function 7: a contract of our own -/
mutual
def spec_l06List.r : Nat → Int → List Int → List Int → Int → Int → List (List Int) → Option (List (List Int))
 | 0, _, _, _, _, _, _ => none
 | k + 1, n, D, s, M, m, L => if m = 0 then (spec_l01Own.f s).bind fun o => (if L.length < 1000000000 then some (L ++ [o]) else none) else spec_l06List.l0 k n D s M m L 0
def spec_l06List.l0 : Nat → Int → List Int → List Int → Int → Int → List (List Int) → Int → Option (List (List Int))
 | 0, _, _, _, _, _, _, _ => none
 | k + 1, n, D, s, M, m, L, c => if c < n then ((spec_l01Bit.f M c).bind fun b => (if b = true then spec_l06List.l0 k n D s M m L (wrap64 (c + 1)) else ((spec_l01Own.f s).bind fun o => (if o.length < 1000000000 then ((spec_l06After.f n D M c).bind fun M2 => ((spec_l06List.r k n D (o ++ [c]) M2 (wrap64 (m - 1)) L).bind fun L2 => spec_l06List.l0 k n D s M m L2 (wrap64 (c + 1)))) else none)))) else some L
end
def spec_TracesOfLength.f (k : Nat) (a0_0 : Int) (l0_1 : List Int) (a1 : Int) : Option ((List (List Int)) × Int) := (spec_CountTraces.f k a0_0 l0_1 a1).bind fun bt => if bt.2 = 0 then (if bt.1 > 1000 then some ([], 3) else (spec_l06List.r k a0_0 l0_1 [] 0 a1 []).bind fun L => some (L, 0)) else some ([], bt.2)
/-- what holds while the list grows: the word, the list, the box of the alphabet -/
def LsI (W0 w : World) (g : Nat) (cs : Array Value) (vs : Value) (s : List Int) (W : World) (v : Value) (L : List (List Int)) : Prop :=
 Below W0.heap.size W0 W ∧ Kd.R (Kd.int .i64) 2 W W0.heap.size (fun _ => True) vs s ∧ Kd.S (Kd.slice 2 (Kd.int .i64)) 22 W W0.heap.size (fun _ => True) v L ∧ IntsKeep 2 w W ∧ IntsKeep 29 w W ∧ W.heap[g]? = some (.cells cs 29 (0, 0)) ∧ w.heap.size ≤ g
section
variable {W0 w : World} {g : Nat} {cs : Array Value} {vs : Value} {s : List Int} {W w1 : World} {v : Value} {L : List (List Int)}
theorem LsI_below (h : LsI W0 w g cs vs s W v L) (hb : Below W.heap.size W w1) : LsI W0 w g cs vs s w1 v L :=
 ⟨Below.grown h.1 (grown_of_below hb none) h.1.size (fun j hj => by cases hj), kL h.2.1 hb, Kd.S_below h.2.2.1 hb, keep_ints_trans h.2.2.2.1 (keep_ints_below hb), keep_ints_trans h.2.2.2.2.1 (keep_ints_below hb), (hb.block g (jI h.2.2.2.2.2.1)).trans h.2.2.2.2.2.1, h.2.2.2.2.2.2⟩
theorem LsI_ext (h : LsI W0 w g cs vs s W v L) {v1 : Value} {L1 : List (List Int)} (hb : Below W0.heap.size W0 w1) (hs : Kd.S (Kd.slice 2 (Kd.int .i64)) 22 w1 W0.heap.size (fun _ => True) v1 L1) (k2 : IntsKeep 2 W w1) (k29 : IntsKeep 29 W w1) : LsI W0 w g cs vs s w1 v1 L1 :=
 ⟨hb, R_ints h.2.1 k2, hs, keep_ints_trans h.2.2.2.1 k2, keep_ints_trans h.2.2.2.2.1 k29, (k29.ints g _ h.2.2.2.2.2.1).trans h.2.2.2.2.2.1, h.2.2.2.2.2.2⟩
theorem LsI_drawn (h : LsI W0 w g cs vs s W v L) (hd : Drawn0 W w1) : LsI W0 w g cs vs s w1 v L := by
 obtain ⟨m, rfl⟩ := hd
 exact LsI_below h (zC (kW _ _) m)
end
/-- a row at the end of the list: rows of other types stay -/
theorem list_app_keep {e : Nat} {W0 W w1 : World} {v : Value} {L : List (List Int)} (he : e ≠ 22) (hs : Kd.S (Kd.slice 2 (Kd.int .i64)) 22 W W0.heap.size (fun _ => True) v L) (hg : W.grownBy w1 v.ownBlock) : IntsKeep e W w1 :=
 keep_ints_grown hg (fun k hk => by
  obtain ⟨c, hc⟩ := Kd.S_typed hs k hk
  exact ⟨c, _, hc, fun h => he h.symm⟩)
theorem one_C (w : World) (c : Int) : Kd.C (Kd.int .i64) (w.alloc (.cells #[.int .i64 c] 2)) (some ⟨w.heap.size, 0, none⟩) 1 [c] := by
 refine Kd.C_of_reads (d := (0 : Int)) ?_
 refine ⟨rfl, by decide, fun _ => ⟨_, rfl, fun j hj => ?_⟩⟩
 obtain rfl : j = 0 := by omega
 have h := kV (blk_new w (.cells #[.int .i64 c] 2)) 0
 exact h.trans rfl
set_option maxHeartbeats 8000000 in
set_option maxRecDepth 100000 in
theorem spec_list_calls (W0 : World) (n : Int) (A0 : Option Addr) (c0 : Nat) (D : List Int) (hD : Kd.C (Kd.int .i64) W0 A0 D.length D) (hc0 : D.length ≤ c0) : ∀ (k : Nat) (s : List Int) (M m : Int) (L r : List (List Int)) (A1 : Option Addr) (c1 : Nat) (v : Value) (w : World), spec_l06List.r k n D s M m L = some r → Below W0.heap.size W0 w → Kd.R (Kd.int .i64) 2 w W0.heap.size (fun _ => True) (.slice A1 s.length c1) s → Kd.S (Kd.slice 2 (Kd.int .i64)) 22 w W0.heap.size (fun _ => True) v L →
  Calls Tryd.prog 24 #[.agg #[.int .i64 n, .slice A0 D.length c0], .slice A1 s.length c1, .int .i64 M, .int .i64 m, v] w fun e w' => ∃ v' : Value, e = .returned v' ∧ Kd.S (Kd.slice 2 (Kd.int .i64)) 22 w' W0.heap.size (fun _ => True) v' r ∧ Below W0.heap.size W0 w' ∧ IntsKeep 2 w w' ∧ IntsKeep 29 w w' := by
 have HD := zA hD
 have HC0 := zA hc0
 clear hD hc0
 intro k
 induction k using Nat.strongRecOn with
 | ind k IH =>
 intro s M m L r A1 c1 v w hf hb hs hl
 cases k with
 | zero => exact absurd hf (by simp [spec_l06List.r])
 | succ k0 =>
 have HI0 := zA (show Below W0.heap.size W0 w ∧ Kd.R (Kd.int .i64) 2 w W0.heap.size (fun _ => True) (.slice A1 s.length c1) s ∧ Kd.S (Kd.slice 2 (Kd.int .i64)) 22 w W0.heap.size (fun _ => True) v L from ⟨hb, hs, hl⟩)
 obtain ⟨Av, cv, ev⟩ := Kd.S_slice hl
 subst ev
 clear hb hs hl
 simp only [spec_l06List.r] at hf
 have hu := Tryd.underlying29
 by_cases q1 : m = 0
 ·rw [if_pos q1] at hf
  subst q1
  obtain ⟨o, h1, hf⟩ := Option.bind_eq_some_iff.1 hf
  by_cases q2 : L.length < 1000000000
  ·rw [if_pos q2] at hf
   obtain rfl := Option.some.inj hf
   have H1 := zA h1
   have H2 := zA q2
   clear hf h1 q2
   go_enter Tryd.func24, Tryd.ntmps24
   go_wp2_with (first | (refine zBE 5 #[.int .i64 n, .slice A0 D.length c0] 29 ?_; intro gb hg w1 hbox hb; have HI := zA (show LsI W0 w gb #[.int .i64 n, .slice A0 D.length c0] (.slice A1 s.length c1) s w1 (.slice Av L.length cv) L from ⟨Below.grown HI0.out.1 (grown_of_below hb none) HI0.out.1.size (fun j hj => by cases hj), kL HI0.out.2.1 hb, Kd.S_below HI0.out.2.2 hb, keep_ints_below hb, keep_ints_below hb, hbox, Nat.le_of_eq hg.symm⟩); clear hb hbox hg) | (refine zO (some 16) Tryd.func46 #[.slice A1 s.length c1] ?_; (with_reducible refine (spec_l01Own.calls _ _ s o _ ?side1 ?side2 H1.out).mono ?_); (case side1 => exact (kB HI.out.2.1).2.2); (case side2 => exact (kB HI.out.2.1).2.1); rintro e w2 ⟨v16, rfl, ho0, hb⟩; refine ⟨_, rfl, ?_⟩; have HI2 := zA (LsI_below HI.out hb); have HZ := zA (Kd.S_below (Kd.S_mono (Kd.S_bound HI.out.2.2.1) (ok' := fun k_ => k_ < w1.heap.size) (fun k_ hk_ => hk_.2.2.1)) hb); have HV := zA (Kd.S_lt HI.out.2.2.1); have HLE := zA (show W0.heap.size ≤ w1.heap.size ∧ w1.heap.size ≤ w2.heap.size from ⟨HI.out.1.size, hb.size⟩); obtain ⟨Ao, co, eo⟩ := kM ho0; subst eo; have HO := zA ho0; clear ho0 hb) | ((with_reducible refine gate_builtin (b := .append) (xs := #[.tmp 14, .tmp 17]) rfl ?_); at_builtin; refine Kd.S_append (Kd.slice 2 (Kd.int .i64)) (w0 := W0) W0.heap.size rfl (.tmp 14) (.tmp 17) 26 22 (.slice none 0 0) 24 rfl Tryd.underlying26 info22 rfl (by decide) (by omega) (.slice Av L.length cv) L o [.slice Ao o.length co] (fun _ => True) (fun k_ => w1.heap.size ≤ k_) rfl rfl ?aP ?aH (fun _ _ => trivial) ?aO ?aB ?aS ?aL ?_; (case aP => exact Kd.M_row (kI (kA (Kd.R_bound HO.out) (fun _ hk_ => hk_.2.1)) HLE.out.1)); (case aH => exact fun k_ hk_ => ⟨trivial, fun e_ => by have := HV.out k_ e_.symm; omega⟩); (case aO => exact Kd.S_mono HZ.out (fun k_ hk_ => ⟨trivial, Nat.not_le.2 hk_⟩)); (case aB => exact HI2.out.1); (case aS => exact HI2.out.1.size); (case aL => have := H2.out; omega); intro v18 w3 ho hb hg hat; have HR := zA (show Kd.S (Kd.slice 2 (Kd.int .i64)) 22 w3 W0.heap.size (fun _ => True) v18 (L ++ [o]) ∧ Below W0.heap.size W0 w3 ∧ IntsKeep 2 w w3 ∧ IntsKeep 29 w w3 from ⟨ho, hb, keep_ints_trans HI2.out.2.2.2.1 (list_app_keep (by decide) HI2.out.2.2.1 hg), keep_ints_trans HI2.out.2.2.2.2.1 (list_app_keep (by decide) HI2.out.2.2.1 hg)⟩); clear ho hb hg hat))
   go_ret
   exact ⟨_, rfl, HR.out⟩
  rw [if_neg q2] at hf
  cases hf
 rw [if_neg q1] at hf
 have H' := zA hf
 have q1b : decide (m = 0) = false := decide_eq_false q1
 clear hf
 go_enter Tryd.func24, Tryd.ntmps24
 go_wp2_with (first | (refine zBE 5 #[.int .i64 n, .slice A0 D.length c0] 29 ?_; intro gb hg w1 hbox hb; have HI := zA (show LsI W0 w gb #[.int .i64 n, .slice A0 D.length c0] (.slice A1 s.length c1) s w1 (.slice Av L.length cv) L from ⟨Below.grown HI0.out.1 (grown_of_below hb none) HI0.out.1.size (fun j hj => by cases hj), kL HI0.out.2.1 hb, Kd.S_below HI0.out.2.2 hb, keep_ints_below hb, keep_ints_below hb, hbox, Nat.le_of_eq hg.symm⟩); clear hb hbox hg))
 clear HI0
 go_loopg [4, 11] k0 (fun gg v4 v11 wr => ∃ (L2 : List (List Int)) (c : Int), v11 = .int .i64 c ∧ Aside0 (spec_l06List.l0 gg n D s M m L2 c = some r) ∧ Aside0 (gg ≤ k0) ∧ Aside0 (LsI W0 w gb #[.int .i64 n, .slice A0 D.length c0] (.slice A1 s.length c1) s wr v4 L2))
 case atStart => exact ⟨L, 0, rfl, H', ⟨Nat.le_refl _⟩, HI⟩
 case round =>
  clear H' HI
  obtain ⟨L2, c, rfl, HA, HK, HI⟩ := hrel
  cases gk with
  | zero => exact absurd HA.out (by simp [spec_l06List.l0])
  | succ k1 =>
   have H := HA.out
   clear HA
   simp only [spec_l06List.l0] at H
   obtain ⟨A4, c4, e4⟩ := Kd.S_slice HI.out.2.2.1
   subst e4
   obtain ⟨hcz0, hcz1, _, _⟩ := zB3 HI.out.2.2.2.2.2.1
   by_cases q3 : c < n
   ·rw [if_pos q3] at H
    have q3b : decide (c < n) = true := decide_eq_true q3
    obtain ⟨b, h1, H⟩ := Option.bind_eq_some_iff.1 H
    have H1 := zA h1
    clear h1
    cases b with
    | true =>
     rw [if_pos rfl] at H
     have HN := zA H
     clear H q3
     go_wp2_with (first | (refine zO (some 27) Tryd.func47 #[.int .i64 M, .int .i64 c] ?_; (with_reducible refine (spec_l01Bit.calls M c _ _ H1.out).mono ?_); rintro e w2 ⟨rfl, hd⟩; refine ⟨_, rfl, ?_⟩; replace HI := zA (LsI_drawn HI.out hd); clear hd))
     go_roundg k1
     case measure => have := HK.out; omega
     case rel => exact ⟨L2, wrap64 (c + 1), rfl, HN, ⟨by have := HK.out; omega⟩, HI⟩
    | false =>
     rw [if_neg (by decide)] at H
     obtain ⟨o, h2, H⟩ := Option.bind_eq_some_iff.1 H
     by_cases q4 : o.length < 1000000000
     ·rw [if_pos q4] at H
      obtain ⟨M2, h3, H⟩ := Option.bind_eq_some_iff.1 H
      obtain ⟨L3, h4, H⟩ := Option.bind_eq_some_iff.1 H
      obtain ⟨yo, hyo⟩ : ∃ y_ : List Int, y_ = o ++ [c] := ⟨_, rfl⟩
      rw [← hyo] at h4
      have NY := zA hyo
      clear hyo
      have H2 := zA h2
      have H3 := zA h3
      have H4 := zA h4
      have H5 := zA q4
      have HN := zA H
      clear H h2 h3 h4 q4 q3
      go_wp2_with (first | (refine zO (some 27) Tryd.func47 #[.int .i64 M, .int .i64 c] ?_; (with_reducible refine (spec_l01Bit.calls M c _ _ H1.out).mono ?_); rintro e w2 ⟨rfl, hd⟩; refine ⟨_, rfl, ?_⟩; replace HI := zA (LsI_drawn HI.out hd); clear hd))
      replace HI := zA (LsI_below HI.out (zD (kW _ w2)))
      obtain ⟨hcy0, hcy1, _, _⟩ := zB3 HI.out.2.2.2.2.2.1
      refine start_ (n := 15) (S := fun w' => w'.cell? ⟨gb, 0, none⟩ = some (.int .i64 n) ∧ w'.cell? ⟨gb, 1, none⟩ = some (.slice A0 D.length c0)) (ds := []) #[false, false, false, false, false, false, false, false, false, false, false, false, false, false, false] (by kernel_rfl) rfl rfl ⟨hcy0, hcy1⟩ (fun hHeld => ?_)
      clear hcz0 hcz1 hcy0 hcy1
      generalize w2.drew = w5 at HI hHeld ⊢
      refine take_ (i := 0) (N := some 29) (v := ?_) (a' := ?_) #[true, false, false, false, false, false, false, false, false, false, false, false, false, false, false] rfl rfl (by kernel_rfl) (fun _ _ _ h => h) (Or.inl ⟨by rfl, ?_⟩) hHeld ?_ ?_
      rotate_left
      ·rintro w' ⟨s0, s1⟩
       go_simp
       with_reducible rfl
      rotate_left
      ·simp only [Act.put, zL, zM, zN, i64_w, i32_w]
       rfl
      refine pure_ (i := 1) (N := some 30) (v := ?_) (a' := ?_) #[true, true, false, false, false, false, false, false, false, false, false, false, false, false, false] rfl rfl (by kernel_rfl) (fun _ _ _ h => h) (Or.inl ⟨by rfl, ?_⟩) ?_ ?_
      rotate_left
      ·intro w'
       go_simp
       with_reducible rfl
      rotate_left
      ·simp only [Act.put, zL, zM, zN, i64_w, i32_w]
       rfl
      refine pure_ (i := 3) (N := some 32) (v := ?_) (a' := ?_) #[true, true, false, true, false, false, false, false, false, false, false, false, false, false, false] rfl rfl (by kernel_rfl) (fun _ _ _ h => h) (Or.inl ⟨by rfl, ?_⟩) ?_ ?_
      rotate_left
      ·intro w'
       go_simp
       with_reducible rfl
      rotate_left
      ·simp only [Act.put, zL, zM, zN, i64_w, i32_w]
       rfl
      refine take_ (i := 6) (N := some 35) (v := ?_) (a' := ?_) #[true, true, false, true, false, false, true, false, false, false, false, false, false, false, false] rfl rfl (by kernel_rfl) (fun _ _ _ h => h) (Or.inl ⟨by rfl, ?_⟩) hHeld ?_ ?_
      rotate_left
      ·rintro w' ⟨s0, s1⟩
       go_simp
       with_reducible rfl
      rotate_left
      ·simp only [Act.put, zL, zM, zN, i64_w, i32_w]
       rfl
      refine pure_ (i := 7) (N := some 36) (v := ?_) (a' := ?_) #[true, true, false, true, false, false, true, true, false, false, false, false, false, false, false] rfl rfl (by kernel_rfl) (fun _ _ _ h => h) (Or.inl ⟨by rfl, ?_⟩) ?_ ?_
      rotate_left
      ·intro w'
       go_simp
       with_reducible rfl
      rotate_left
      ·simp only [Act.put, zL, zM, zN, i64_w, i32_w]
       rfl
      refine pure_ (i := 8) (N := some 37) (v := ?_) (a' := ?_) #[true, true, false, true, false, false, true, true, true, false, false, false, false, false, false] rfl rfl (by kernel_rfl) (fun _ _ _ h => h) (Or.inl ⟨by rfl, ?_⟩) ?_ ?_
      rotate_left
      ·intro w'
       go_simp
       with_reducible rfl
      rotate_left
      ·simp only [Act.put, zL, zM, zN, i64_w, i32_w]
       rfl
      refine pure_ (i := 10) (N := some 39) (v := ?_) (a' := ?_) #[true, true, false, true, false, false, true, true, true, false, true, false, false, false, false] rfl rfl (by kernel_rfl) (fun _ _ _ h => h) (Or.inl ⟨by rfl, ?_⟩) ?_ ?_
      rotate_left
      ·intro w'
       go_simp
       with_reducible rfl
      rotate_left
      ·simp only [Act.put, zL, zM, zN, i64_w, i32_w]
       rfl
      refine pure_ (i := 11) (N := some 40) (v := ?_) (a' := ?_) #[true, true, false, true, false, false, true, true, true, false, true, true, false, false, false] rfl rfl (by kernel_rfl) (fun _ _ _ h => h) (Or.inl ⟨by rfl, ?_⟩) ?_ ?_
      rotate_left
      ·intro w'
       go_simp
       with_reducible rfl
      rotate_left
      ·simp only [Act.put, zL, zM, zN, i64_w, i32_w]
       rfl
      refine pure_ (i := 12) (N := some 41) (v := ?_) (a' := ?_) #[true, true, false, true, false, false, true, true, true, false, true, true, true, false, false] rfl rfl (by kernel_rfl) (fun _ _ _ h => h) (Or.inl ⟨by rfl, ?_⟩) ?_ ?_
      rotate_left
      ·intro w'
       go_simp
       with_reducible rfl
      rotate_left
      ·simp only [Act.put, zL, zM, zN, i64_w, i32_w]
       rfl
      refine join_ (σ := (Option Addr × Nat) × Nat) 4 #[true, true, true, true, true, false, true, true, true, false, true, true, true, false, false] (fun z => [(31, .slice z.1.1 o.length z.1.2), (33, .slice (some ⟨z.2, 0, none⟩) 1 1)]) (fun z w' => Kd.R (Kd.int .i64) 2 w' w5.heap.size (fun _ => True) (.slice z.1.1 o.length z.1.2) o ∧ Kd.C (Kd.int .i64) w' (some ⟨z.2, 0, none⟩) 1 [c] ∧ Below w5.heap.size w5 w') ?_ ?_
      rotate_left
      ·intro hCont
       refine two_ (i := 2) (j := 4) (Ni := some 31) (Nj := some 33) #[true, true, true, true, false, false, true, true, true, false, true, true, true, false, false] #[true, true, false, true, true, false, true, true, true, false, true, true, true, false, false] rfl rfl rfl rfl (by kernel_rfl) (by decide) (by decide) (fun K hK => ?_) (fun K hK => ?_)
       ·skip
        refine goes_ Tryd.func46 (by kernel_rfl) rfl #[.slice A1 s.length c1] (by rfl) rfl rfl (by simp only [List.map_toArray, List.map_cons, List.map_nil]; rfl) ?_
        with_reducible refine (spec_l01Own.calls _ _ s o _ ?side1 ?side2 H2.out).mono ?_
        case side1 => exact kO (kB HI.out.2.1).2.2 (kW _ _)
        case side2 => exact (kB HI.out.2.1).2.1
        rintro e w6 ⟨v31, rfl, ho0, hb⟩
        refine ⟨_, rfl, ?_⟩
        obtain ⟨Ao, co, eo⟩ := kM ho0
        subst eo
        have hx := (LsI_below HI.out hb).2.2.2.2.2.1
        obtain ⟨hx0, hx1, _, _⟩ := zB3 hx
        refine hK.out _ _ ⟨hx0, hx1⟩ (fun hHeld => ?_)
        clear hK K hx hx0 hx1
        refine norm_ (a' := ?_) ?_ ?_
        rotate_left
        ·show Act.put _ (some 31) _ = _
         simp only [Act.put, zL, zM, zN, i64_w, i32_w]
         rfl
        refine one_ (i := 4) (N := some 33) #[true, true, true, true, true, false, true, true, true, false, true, true, true, false, false] rfl rfl (by kernel_rfl) (by decide) (fun K hK => ?_)
        refine value_ (v := .slice (some ⟨w6.heap.size, 0, none⟩) 1 1) (w1 := w6.alloc (.cells #[.int .i64 c] 2)) (by rfl) rfl (by first | (go_simp; done) | (go_simp; rfl)) ?_
        have hb2 : Below w5.heap.size w5 (w6.alloc (.cells #[.int .i64 c] 2)) := zB hb _
        have hx := (LsI_below HI.out hb2).2.2.2.2.2.1
        obtain ⟨hx0, hx1, _, _⟩ := zB3 hx
        refine hK.out _ _ ⟨hx0, hx1⟩ (fun hHeld => ?_)
        clear hK K hx hx0 hx1
        refine norm_ (a' := ?_) ?_ ?_
        rotate_left
        ·show Act.put _ (some 33) _ = _
         simp only [Act.put, zL, zM, zN, i64_w, i32_w]
         rfl
        exact norm_ (by first | (simp only [putAll, Act.put, zL, zM, zN]; done) | (simp only [putAll, Act.put, zL, zM, zN]; rfl)) (hCont ⟨(Ao, co), w6.heap.size⟩ _ ⟨zF ho0 _, one_C _ c, hb2⟩)
       skip
       refine value_ (v := .slice (some ⟨w5.heap.size, 0, none⟩) 1 1) (w1 := w5.alloc (.cells #[.int .i64 c] 2)) (by rfl) rfl (by first | (go_simp; done) | (go_simp; rfl)) ?_
       have hb2 : Below w5.heap.size w5 (w5.alloc (.cells #[.int .i64 c] 2)) := zB (kW _ _) _
       have hx := (LsI_below HI.out hb2).2.2.2.2.2.1
       obtain ⟨hx0, hx1, _, _⟩ := zB3 hx
       refine hK.out _ _ ⟨hx0, hx1⟩ (fun hHeld => ?_)
       clear hK K hx hx0 hx1
       refine norm_ (a' := ?_) ?_ ?_
       rotate_left
       ·show Act.put _ (some 33) _ = _
        simp only [Act.put, zL, zM, zN, i64_w, i32_w]
        rfl
       refine one_ (i := 2) (N := some 31) #[true, true, true, true, true, false, true, true, true, false, true, true, true, false, false] rfl rfl (by kernel_rfl) (by decide) (fun K hK => ?_)
       refine goes_ Tryd.func46 (by kernel_rfl) rfl #[.slice A1 s.length c1] (by rfl) rfl rfl (by simp only [List.map_toArray, List.map_cons, List.map_nil]; rfl) ?_
       with_reducible refine (spec_l01Own.calls _ _ s o _ ?side1 ?side2 H2.out).mono ?_
       case side1 => exact kO (kB HI.out.2.1).2.2 hb2
       case side2 => exact (kB HI.out.2.1).2.1
       rintro e w6 ⟨v31, rfl, ho0, hb⟩
       refine ⟨_, rfl, ?_⟩
       obtain ⟨Ao, co, eo⟩ := kM ho0
       subst eo
       have hb3 : Below w5.heap.size w5 w6 := kQ hb2 hb
       have hx := (LsI_below HI.out hb3).2.2.2.2.2.1
       obtain ⟨hx0, hx1, _, _⟩ := zB3 hx
       refine hK.out _ _ ⟨hx0, hx1⟩ (fun hHeld => ?_)
       clear hK K hx hx0 hx1
       refine norm_ (a' := ?_) ?_ ?_
       rotate_left
       ·show Act.put _ (some 31) _ = _
        simp only [Act.put, zL, zM, zN, i64_w, i32_w]
        rfl
       exact norm_ (by first | (simp only [putAll, Act.put, zL, zM, zN]; done) | (simp only [putAll, Act.put, zL, zM, zN]; rfl)) (hCont ⟨(Ao, co), w5.heap.size⟩ _ ⟨kI ho0 hb2.size, kO (one_C _ c) hb, hb3⟩)
      rintro ⟨⟨Ao, co⟩, g33⟩ w6 ⟨ho, hc33, hb6⟩
      refine norm_ (a' := ?_) ?_ ?_
      rotate_left
      ·simp only [putAll, Act.put, zL, zM, zN]
       rfl
      refine one_ (i := 5) (N := some 34) #[true, true, true, true, true, true, true, true, true, false, true, true, true, false, false] rfl rfl (by kernel_rfl) (by decide) (fun K hK => ?_)
      refine Kd.R_append_rows_step (Kd.int .i64) (w0 := w5) w5.heap.size (by rfl) (.tmp 31) (.tmp 33) 22 2 (.int .i64 0) 8 rfl Tryd.underlying22 info2 rfl (by decide) (by omega) (.slice Ao o.length co) o [c] _ _ _ (fun _ => True) (fun _ => False) rfl rfl ?aO ?aR (fun _ _ h => h) (fun _ h => h.elim) ?aF ?aB ?aS ?aL ?_
      case aO => exact ho
      case aR => exact hc33
      case aF => exact (fun _ _ => trivial)
      case aB => exact hb6
      case aS => exact hb6.size
      case aL => have := H5.out; omega
      intro v34 w7 ho7 hb7 hg hat
      rw [← NY.out] at ho7
      obtain ⟨Ay, cy, ey⟩ := kM ho7
      subst ey
      clear hg hat ho hc33
      have hx := (LsI_below HI.out hb7).2.2.2.2.2.1
      obtain ⟨hx0, hx1, _, _⟩ := zB3 hx
      refine hK.out _ _ ⟨hx0, hx1⟩ (fun hHeld => ?_)
      clear hK K hx hx0 hx1
      refine norm_ (a' := ?_) ?_ ?_
      rotate_left
      ·show Act.put _ (some 34) _ = _
       simp only [Act.put, zL, zM, zN, i64_w, i32_w]
       rfl
      refine one_ (i := 9) (N := some 38) #[true, true, true, true, true, true, true, true, true, true, true, true, true, false, false] rfl rfl (by kernel_rfl) (by decide) (fun K hK => ?_)
      refine goes_ Tryd.func48 (by kernel_rfl) rfl #[.agg #[.int .i64 n, .slice A0 D.length c0], .int .i64 M, .int .i64 c] (by rfl) rfl rfl (by simp only [List.map_toArray, List.map_cons, List.map_nil]; rfl) ?_
      with_reducible refine (spec_l06After.calls n _ _ D M c M2 _ ?side1 ?side2 H3.out).mono ?_
      case side1 => exact kO HD.out (LsI_below HI.out hb7).1
      case side2 => exact HC0.out
      rintro e w8 ⟨rfl, hb⟩
      refine ⟨_, rfl, ?_⟩
      have hb8 := kQ hb7 hb
      have hx := (LsI_below HI.out hb8).2.2.2.2.2.1
      obtain ⟨hx0, hx1, _, _⟩ := zB3 hx
      refine hK.out _ _ ⟨hx0, hx1⟩ (fun hHeld => ?_)
      clear hK K hx hx0 hx1
      refine norm_ (a' := ?_) ?_ ?_
      rotate_left
      ·show Act.put _ (some 38) _ = _
       simp only [Act.put, zL, zM, zN, i64_w, i32_w]
       rfl
      refine one_ (i := 13) (N := some 42) #[true, true, true, true, true, true, true, true, true, true, true, true, true, true, false] rfl rfl (by kernel_rfl) (by decide) (fun K hK => ?_)
      refine goes_ Tryd.func24 (by kernel_rfl) rfl #[.agg #[.int .i64 n, .slice A0 D.length c0], .slice Ay yo.length cy, .int .i64 M2, .int .i64 (wrap64 (m - 1)), .slice A4 L2.length c4] (by rfl) rfl rfl (by simp only [List.map_toArray, List.map_cons, List.map_nil]; rfl) ?_
      have HI8 := LsI_below HI.out hb8
      refine (IH k1 (by have := HK.out; omega) yo M2 (wrap64 (m - 1)) L2 L3 Ay cy _ w8 H4.out HI8.1 (kI (kL ho7 hb) HI.out.1.size) HI8.2.2.1).mono ?_
      rintro e w9 ⟨v42, rfl, hs9, hb9, k2, k29⟩
      refine ⟨_, rfl, ?_⟩
      have HI9 := zA (LsI_ext HI8 hb9 hs9 k2 k29)
      obtain ⟨hx0, hx1, _, _⟩ := zB3 HI9.out.2.2.2.2.2.1
      refine hK.out _ _ ⟨hx0, hx1⟩ (fun hHeld => ?_)
      clear hK K hx0 hx1 hs9 hb9 k2 k29 HI8 hb8 hb7 hb6 hb ho7
      refine norm_ (a' := ?_) ?_ ?_
      rotate_left
      ·show Act.put _ (some 42) _ = _
       simp only [Act.put, zL, zM, zN, i64_w, i32_w]
       rfl
      refine pure_ (i := 14) (N := some 4) (v := ?_) (a' := ?_) #[true, true, true, true, true, true, true, true, true, true, true, true, true, true, true] rfl rfl (by kernel_rfl) (fun _ _ _ h => h) (Or.inl ⟨by rfl, ?_⟩) ?_ ?_
      rotate_left
      ·intro w'
       go_simp
       with_reducible rfl
      rotate_left
      ·simp only [Act.put, zL, zM, zN, i64_w, i32_w]
       rfl
      refine done_ (by kernel_rfl) ?_
      go_wp2
      go_roundg k1
      case measure => have := HK.out; omega
      case rel => exact ⟨L3, wrap64 (c + 1), rfl, HN, ⟨by have := HK.out; omega⟩, HI9⟩
     rw [if_neg q4] at H
     cases H
   rw [if_neg q3] at H
   have q3b : decide (c < n) = false := decide_eq_false q3
   obtain rfl := Option.some.inj H
   go_wp2
   go_ret
   exact ⟨_, rfl, HI.out.2.2.1, HI.out.1, HI.out.2.2.2.1, HI.out.2.2.2.2.1⟩
set_option maxHeartbeats 8000000 in
set_option maxRecDepth 100000 in
theorem spec_TracesOfLength.calls (k : Nat) (a0_0 : Int) (A0_1 : Option Addr) (c0_1 : Nat) (l0_1 : List Int) (a1 : Int) (r1 : List (List Int)) (r2 : Int) (w : World) (hr0_1 : Kd.C (Kd.int .i64) w A0_1 l0_1.length l0_1) (hc0_1 : l0_1.length ≤ c0_1) (hT : TabW w) (h : spec_TracesOfLength.f k a0_0 l0_1 a1 = some (r1, r2)) :
  Calls Tryd.prog 7 #[.agg #[.int .i64 a0_0, .slice A0_1 l0_1.length c0_1], .int .i64 a1] w fun e w' => ∃ v0_ : Value, e = .returned (.tuple #[v0_, .int .i64 r2]) ∧ Kd.S (Kd.slice 2 (Kd.int .i64)) 22 w' w.heap.size (fun _ => True) v0_ r1 ∧ Below w.heap.size w w' := by
 obtain ⟨⟨m, code⟩, h1, h⟩ := Option.bind_eq_some_iff.1 h
 have H1 := zA h1
 have HR := zA hr0_1
 have HC := zA hc0_1
 clear h1 hr0_1 hc0_1 hT
 have hu := Tryd.underlying29
 simp only [] at h
 by_cases q1 : code = 0
 ·rw [if_pos q1] at h
  subst q1
  by_cases q2 : m > 1000
  ·rw [if_pos q2] at h
   have q2b : decide (m > 1000) = true := decide_eq_true q2
   have q2c : decide (1000 < m) = true := decide_eq_true q2
   simp only [Option.some.injEq, Prod.mk.injEq] at h
   obtain ⟨rfl, rfl⟩ := h
   go_enter Tryd.func7, Tryd.ntmps7
   go_wp2_with (first | (refine zBE 2 #[.int .i64 a0_0, .slice A0_1 l0_1.length c0_1] 29 ?_; intro gb hg w1 hbox hb; have BK := zA hbox; have HB := zA hb; have HGE := zA (Nat.le_of_eq hg.symm); clear hb hbox hg; obtain ⟨hcz0, hcz1, _, _⟩ := zB3 BK.out) | (refine zO (some 11) Tryd.func23 #[.agg #[.int .i64 a0_0, .slice A0_1 l0_1.length c0_1], .int .i64 a1] ?_; (with_reducible refine (spec_CountTraces.calls k a0_0 _ _ l0_1 a1 _ _ _ ?side1 ?side2 H1.out).mono ?_); (case side1 => exact kO HR.out HB.out); (case side2 => exact HC.out); rintro e w2 ⟨rfl, hb⟩; refine ⟨_, rfl, ?_⟩; have HB2 := zA (Below.grown HB.out (grown_of_below hb none) HB.out.size (fun j hj => by cases hj)); have BK2 := zA ((hb.block gb (jI BK.out)).trans BK.out); clear hb; replace hcz0 := (zB3 BK2.out).1; replace hcz1 := (zB3 BK2.out).2.1))
   go_ret2
   exact ⟨_, rfl, Kd.S_nil _ _ _ _ _, HB2.out⟩
  rw [if_neg q2] at h
  have q2b : decide (m > 1000) = false := decide_eq_false q2
  have q2c : decide (1000 < m) = false := decide_eq_false q2
  obtain ⟨L, h2, h⟩ := Option.bind_eq_some_iff.1 h
  simp only [Option.some.injEq, Prod.mk.injEq] at h
  obtain ⟨rfl, rfl⟩ := h
  have H2 := zA h2
  clear h2
  go_enter Tryd.func7, Tryd.ntmps7
  go_wp2_with (first | (refine zBE 2 #[.int .i64 a0_0, .slice A0_1 l0_1.length c0_1] 29 ?_; intro gb hg w1 hbox hb; have BK := zA hbox; have HB := zA hb; have HGE := zA (Nat.le_of_eq hg.symm); clear hb hbox hg; obtain ⟨hcz0, hcz1, _, _⟩ := zB3 BK.out) | (refine zO (some 11) Tryd.func23 #[.agg #[.int .i64 a0_0, .slice A0_1 l0_1.length c0_1], .int .i64 a1] ?_; (with_reducible refine (spec_CountTraces.calls k a0_0 _ _ l0_1 a1 _ _ _ ?side1 ?side2 H1.out).mono ?_); (case side1 => exact kO HR.out HB.out); (case side2 => exact HC.out); rintro e w2 ⟨rfl, hb⟩; refine ⟨_, rfl, ?_⟩; have HB2 := zA (Below.grown HB.out (grown_of_below hb none) HB.out.size (fun j hj => by cases hj)); have BK2 := zA ((hb.block gb (jI BK.out)).trans BK.out); clear hb; replace hcz0 := (zB3 BK2.out).1; replace hcz1 := (zB3 BK2.out).2.1) | ((with_reducible refine kS (N := 24) rfl ?_); refine Kd.R_lit (Kd.int .i64) _ 2 ?hg (N := 24) ?hd (xs := ([] : List Int)) (inner := []) (ok := fun _ => True) (okp := fun _ => True) ?hr ?hp (fun _ hk => hk) trivial (kW _ _) (Nat.le_refl _) (by simp) ?_; (case hd => rfl); (case hg => rfl); (case hr => first | (go_simp; done) | (go_simp; rfl)); (case hp => exact (Reps.none _ _)); intro v24 w3 ho hb hg_ hnew_; obtain ⟨A24, c24, e24⟩ := kM ho; subst e24; have HO := zA (kI ho HB2.out.size); have HB3 := zA (Below.grown HB2.out (grown_of_below hb none) HB2.out.size (fun j hj => by cases hj)); clear hg_ hnew_ ho hb) | ((with_reducible refine kS (N := 26) rfl ?_); refine Kd.S_lits (Kd.slice 2 (Kd.int .i64)) _ 22 ?hg (N := 26) ?hd (xs := ([] : List (List Int))) (inner := []) (ok := fun _ => True) (fun _ _ => False) ?hr (by rfl) ?hp (fun _ _ _ h_ => h_.elim) (fun _ _ h_ => h_.elim) trivial (kW _ _) (Nat.le_refl _) (by simp) ?_; (case hd => rfl); (case hg => rfl); (case hr => first | (go_simp; done) | (go_simp; rfl)); (case hp => exact fun j_ x_ hx_ => by simp at hx_); intro v26 w4 ho hb hg_ hnew_; have HS := zA (Kd.S_lower ho HB3.out.size); have HO4 := zA (kL HO.out hb); have HB4 := zA (Below.grown HB3.out (grown_of_below hb none) HB3.out.size (fun j hj => by cases hj)); clear hg_ hnew_ ho hb) | (refine zO (some 27) Tryd.func24 #[.agg #[.int .i64 a0_0, .slice A0_1 l0_1.length c0_1], .slice A24 0 c24, .int .i64 0, .int .i64 a1, v26] ?_; refine (spec_list_calls w a0_0 A0_1 c0_1 l0_1 HR.out HC.out k [] 0 a1 [] L A24 c24 v26 _ H2.out HB4.out HO4.out HS.out).mono ?_; rintro e w5 ⟨v27, rfl, hs5, hb5, _, _⟩; refine ⟨_, rfl, ?_⟩; have HF := zA (show Kd.S (Kd.slice 2 (Kd.int .i64)) 22 w5 w.heap.size (fun _ => True) v27 L ∧ Below w.heap.size w w5 from ⟨hs5, hb5⟩); clear hs5 hb5))
  go_ret2
  exact ⟨_, rfl, HF.out.1, HF.out.2⟩
 rw [if_neg q1] at h
 have q1b : decide (code = 0) = false := decide_eq_false q1
 have q1c : decide (code ≠ 0) = true := decide_eq_true q1
 simp only [Option.some.injEq, Prod.mk.injEq] at h
 obtain ⟨rfl, rfl⟩ := h
 go_enter Tryd.func7, Tryd.ntmps7
 go_wp2_with (first | (refine zBE 2 #[.int .i64 a0_0, .slice A0_1 l0_1.length c0_1] 29 ?_; intro gb hg w1 hbox hb; have BK := zA hbox; have HB := zA hb; have HGE := zA (Nat.le_of_eq hg.symm); clear hb hbox hg; obtain ⟨hcz0, hcz1, _, _⟩ := zB3 BK.out) | (refine zO (some 11) Tryd.func23 #[.agg #[.int .i64 a0_0, .slice A0_1 l0_1.length c0_1], .int .i64 a1] ?_; (with_reducible refine (spec_CountTraces.calls k a0_0 _ _ l0_1 a1 _ _ _ ?side1 ?side2 H1.out).mono ?_); (case side1 => exact kO HR.out HB.out); (case side2 => exact HC.out); rintro e w2 ⟨rfl, hb⟩; refine ⟨_, rfl, ?_⟩; have HB2 := zA (Below.grown HB.out (grown_of_below hb none) HB.out.size (fun j hj => by cases hj)); have BK2 := zA ((hb.block gb (jI BK.out)).trans BK.out); clear hb; replace hcz0 := (zB3 BK2.out).1; replace hcz1 := (zB3 BK2.out).2.1))
 go_ret2
 exact ⟨_, rfl, Kd.S_nil _ _ _ _ _, HB2.out⟩

end Go.Proofs.YtemdfjdmokbcoaaDoor.PAll
