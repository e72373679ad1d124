-- Printed by a program of the session (wip/tools/pgen.py) out of the translation. Not trusted: Lean checks it.
import Derived.Test.YtinkolnhpgilpaaDoorPAllx0
namespace Go.Proofs.YtinkolnhpgilpaaDoor.PAll
open Go.RowKit Go.Proofs.YtinkolnhpgilpaaDoor.T Go.Proofs.YtinkolnhpgilpaaDoorW.PrintWords Go.Proofs.YtinkolnhpgilpaaDoorW.PrintLast Go.Proofs.YtinkolnhpgilpaaDoorW.PrintMore
attribute [local go_sem] max2_int min2_int max_two min_two max_three min_three max_four min_four   -- for this text's walks alone
set_option linter.unusedVariables false
set_option linter.unusedSimpArgs false

/-! ### laws_szInt64S: function 17 -/
def laws_szInt64S.f (l0 : List Int) (a1 : Int) : Option (Int) := if (wrap64 (a1 - (l0.length : Int))) < 0 then (some (-1)) else (some (wrap64 (a1 - (l0.length : Int))))
set_option maxHeartbeats 8000000 in
set_option maxRecDepth 100000 in
theorem laws_szInt64S.calls (A0 : Option Addr) (c0 : Nat) (l0 : List Int) (a1 : Int) (r : Int) (w : World) (hr0 : Kd.C (Kd.int .i64) w A0 l0.length l0) (hc0 : l0.length ≤ c0) (h : laws_szInt64S.f l0 a1 = some r) :
  Calls Tryd.prog 17 #[.slice A0 l0.length c0, .int .i64 a1] w fun e w' => e = .returned (.int .i64 r) ∧ Drawn0 w w' := by
 have HR0 := zA hr0
 have HC0 := zA hc0
 clear hr0 hc0
 have H := h
 unfold laws_szInt64S.f at H
 clear h
 by_cases c3 : (wrap64 (a1 - (l0.length : Int))) < 0
 ·rw [if_pos c3] at H
  have c3b0 : decide ((wrap64 (a1 - (l0.length : Int))) < 0) = true := decide_eq_true c3
  clear c3
  obtain rfl := Option.some.inj H
  go_enter Tryd.func17, Tryd.ntmps17
  go_wp2
  go_ret
  exact ⟨zs, by repeat (first | exact Drawn0.refl _ | apply Drawn0.step)⟩
 rw [if_neg c3] at H
 have c3b0 : decide ((wrap64 (a1 - (l0.length : Int))) < 0) = false := decide_eq_false c3
 clear c3
 obtain rfl := Option.some.inj H
 go_enter Tryd.func17, Tryd.ntmps17
 go_wp2
 go_ret
 exact ⟨zs, by repeat (first | exact Drawn0.refl _ | apply Drawn0.step)⟩

/-! ### laws_szAlphabet: function 5 -/
def laws_szAlphabet.f (a0_0 : Int) (l0_1 : List Int) (a1 : Int) : Option (Int) := (laws_szInt64S.f l0_1 a1).bind fun t102 => (if t102 < 0 then (some (-1)) else (some t102))
set_option maxHeartbeats 8000000 in
set_option maxRecDepth 100000 in
theorem laws_szAlphabet.calls (a0_0 : Int) (A0_1 : Option Addr) (c0_1 : Nat) (l0_1 : List Int) (a1 : Int) (r : Int) (w : World) (hr0_1 : Kd.C (Kd.int .i64) w A0_1 l0_1.length l0_1) (hc0_1 : l0_1.length ≤ c0_1) (h : laws_szAlphabet.f a0_0 l0_1 a1 = some r) :
  Calls Tryd.prog 5 #[.agg #[.int .i64 a0_0, .slice A0_1 l0_1.length c0_1], .int .i64 a1] w fun e w' => e = .returned (.int .i64 r) ∧ Below w.heap.size w w' := by
 have hu24 := Tryd.underlying24
 have HR0_1 := zA hr0_1
 have HC0_1 := zA hc0_1
 clear hr0_1 hc0_1
 have HB := zA (kW w.heap.size w)
 have H := h
 unfold laws_szAlphabet.f at H
 clear h
 obtain ⟨t102, A3, H⟩ := zb H
 try dsimp only at H
 by_cases c4 : t102 < 0
 ·rw [if_pos c4] at H
  have c4b0 : decide (t102 < 0) = true := decide_eq_true c4
  clear c4
  obtain rfl := Option.some.inj H
  go_enter Tryd.func5, Tryd.ntmps5
  go_wp2_with (first | (refine zBE 2 #[.int .i64 a0_0, .slice A0_1 l0_1.length c0_1] 24 ?_; intro gb101 hg w5 hbox hb; have BK101 := zA (hbox); have GW101 := zA (zBH hg HB.out); have GE101 := zA (zBH hg HB.out); replace HB := zA (kQ (zQ HB.out) hb); clear hb hbox hg; obtain ⟨hcz6_0, hcz6_1, hfz6_0, hfz6_1⟩ := zB3 BK101.out) | (refine zO (some 8) Tryd.func17 #[.slice A0_1 l0_1.length c0_1, .int .i64 a1] ?_; (with_reducible refine (laws_szInt64S.calls _ _ l0_1 a1 t102 _ ?side1 ?side2 A3.out).mono ?_); (case side1 => exact zS (kO HR0_1.out HB.out)); (case side2 => exact HC0_1.out); rintro e w' ⟨rfl, ⟨nd, rfl⟩⟩; refine ⟨_, rfl, ?_⟩))
  go_ret
  exact ⟨zr, zT HB.out GE101.out⟩
 rw [if_neg c4] at H
 have c4b0 : decide (t102 < 0) = false := decide_eq_false c4
 clear c4
 obtain rfl := Option.some.inj H
 go_enter Tryd.func5, Tryd.ntmps5
 go_wp2_with (first | (refine zBE 2 #[.int .i64 a0_0, .slice A0_1 l0_1.length c0_1] 24 ?_; intro gb101 hg w7 hbox hb; have BK101 := zA (hbox); have GW101 := zA (zBH hg HB.out); have GE101 := zA (zBH hg HB.out); replace HB := zA (kQ (zQ HB.out) hb); clear hb hbox hg; obtain ⟨hcz8_0, hcz8_1, hfz8_0, hfz8_1⟩ := zB3 BK101.out) | (refine zO (some 8) Tryd.func17 #[.slice A0_1 l0_1.length c0_1, .int .i64 a1] ?_; (with_reducible refine (laws_szInt64S.calls _ _ l0_1 a1 t102 _ ?side1 ?side2 A3.out).mono ?_); (case side1 => exact zS (kO HR0_1.out HB.out)); (case side2 => exact HC0_1.out); rintro e w' ⟨rfl, ⟨nd, rfl⟩⟩; refine ⟨_, rfl, ?_⟩))
 go_ret
 exact ⟨zr, zT HB.out GE101.out⟩

/-! ### spec_l01In: function 42 -/
def spec_l01In.f (a0 : Int) (a1 : Int) (a2 : Int) : Option (Bool) := if a0 ≥ a1 then (some (decide (a0 ≤ a2))) else (some false)
set_option maxHeartbeats 8000000 in
set_option maxRecDepth 100000 in
theorem spec_l01In.calls (a0 : Int) (a1 : Int) (a2 : Int) (r : Bool) (w : World) (h : spec_l01In.f a0 a1 a2 = some r) :
  Calls Tryd.prog 42 #[.int .i64 a0, .int .i64 a1, .int .i64 a2] w fun e w' => e = .returned (.bool r) ∧ Drawn0 w w' := by
 have H := h
 unfold spec_l01In.f at H
 clear h
 by_cases c4 : a0 ≥ a1
 ·rw [if_pos c4] at H
  have c4b0 : decide (a1 ≤ a0) = true := decide_eq_true c4
  clear c4
  obtain rfl := Option.some.inj H
  go_enter Tryd.func42, Tryd.ntmps42
  go_wp2
  go_ret
  exact ⟨zs, by repeat (first | exact Drawn0.refl _ | apply Drawn0.step)⟩
 rw [if_neg c4] at H
 have c4b0 : decide (a1 ≤ a0) = false := decide_eq_false c4
 clear c4
 obtain rfl := Option.some.inj H
 go_enter Tryd.func42, Tryd.ntmps42
 go_wp2
 go_ret
 exact ⟨zs, by repeat (first | exact Drawn0.refl _ | apply Drawn0.step)⟩

/-! ### spec_l01One: function 66 -/
def spec_l01One.f (a0 : Int) : Option (Int) := if 0 ≤ (IntKind.u64.wrap (a0)) then (some (shl .i64 1 (IntKind.u64.wrap (a0)))) else (none)
set_option maxHeartbeats 8000000 in
set_option maxRecDepth 100000 in
theorem spec_l01One.calls (a0 : Int) (r : Int) (w : World) (h : spec_l01One.f a0 = some r) :
  Calls Tryd.prog 66 #[.int .i64 a0] w fun e w' => e = .returned (.int .i64 r) ∧ Drawn0 w w' := by
 have H := h
 unfold spec_l01One.f at H
 clear h
 obtain ⟨ji2, hji2⟩ : ∃ j_ : Int, (IntKind.u64.wrap (a0)) = j_ := ⟨_, rfl⟩
 replace H : (if 0 ≤ (ji2) then (some (shl .i64 1 (ji2))) else (none)) = some r := by first | (rw [hji2] at H; exact H) | (simp only [hji2] at H ⊢; exact H)
 by_cases c3 : 0 ≤ (ji2)
 ·rw [if_pos c3] at H
  have c3b0 := eq_true c3
  have c3b1 : decide (0 ≤ (ji2)) = true := decide_eq_true c3
  clear c3
  obtain ⟨ji4, hji4⟩ : ∃ j_ : Int, (shl .i64 1 (ji2)) = j_ := ⟨_, rfl⟩
  replace H : (some ji4) = some r := by first | (rw [hji4] at H; exact H) | (simp only [hji4] at H ⊢; exact H)
  have hji4_ : (IntKind.i64.wrap (1 * 2 ^ min (ji2).toNat 64)) = ji4 := hji4
  have hji4z : (ji2) ≤ 64 → (IntKind.i64.wrap (1 * 2 ^ (ji2).toNat)) = ji4 := shl_small hji4
  have hji4u : (IntKind.i64.wrap (2 ^ min (ji2).toNat 64)) = ji4 := by have h_ := hji4_; rw [Int.one_mul] at h_; exact h_
  have hji4v : (ji2) ≤ 64 → (IntKind.i64.wrap (2 ^ (ji2).toNat)) = ji4 := fun hle_ => by have h_ := hji4z hle_; rw [Int.one_mul] at h_; exact h_
  have hji4y : (wrap64 (1 * 2 ^ min (ji2).toNat 64)) = ji4 := (i64_w _).symm.trans hji4_
  have hji4x : (ji2) ≤ 64 → (wrap64 (1 * 2 ^ (ji2).toNat)) = ji4 := fun h_ => (i64_w _).symm.trans (hji4z h_)
  obtain rfl := Option.some.inj H
  go_enter Tryd.func66, Tryd.ntmps66
  go_wp2
  go_ret
  exact ⟨by first | rfl | (simp; done) | (simp only [← hji2, ← hji4] <;> (first | rfl | simp)) | (simp [*]; done), by repeat (first | exact Drawn0.refl _ | apply Drawn0.step)⟩
 rw [if_neg c3] at H
 exact absurd H (by simp)

/-! ### spec_l01Full: function 58 -/
def spec_l01Full.f (a0 : Int) : Option (Int) := (spec_l01One.f a0).bind fun t103 => (some (wrap64 (t103 - 1)))
set_option maxHeartbeats 8000000 in
set_option maxRecDepth 100000 in
theorem spec_l01Full.calls (a0 : Int) (r : Int) (w : World) (h : spec_l01Full.f a0 = some r) :
  Calls Tryd.prog 58 #[.int .i64 a0] w fun e w' => e = .returned (.int .i64 r) ∧ Drawn0 w w' := by
 have H := h
 unfold spec_l01Full.f at H
 clear h
 obtain ⟨t103, A2, H⟩ := zb H
 try dsimp only at H
 obtain rfl := Option.some.inj H
 go_enter Tryd.func58, Tryd.ntmps58
 go_wp2_with (first | (refine zO (some 4) Tryd.func66 #[.int .i64 a0] ?_; (with_reducible refine (spec_l01One.calls a0 t103 _ A2.out).mono ?_); rintro e w' ⟨rfl, ⟨nd, rfl⟩⟩; refine ⟨_, rfl, ?_⟩))
 go_ret
 exact ⟨zs, by repeat (first | exact Drawn0.refl _ | apply Drawn0.step)⟩

/-! ### spec_l01Masks: function 43 -/
def spec_l01Masks.l0 : Nat → Int → List Int → Int → Option (Bool)
 | 0, _, _, _ => none
 | k + 1, x0, x1, x5 => if x5 < (x1.length : Int) then (if 0 ≤ x5 then ((spec_l01Full.f x0).bind fun t105 => ((spec_l01In.f (rd x1 x5) 0 t105).bind fun t106 => (if t106 = true then (spec_l01Masks.l0 k x0 x1 (wrap64 (x5 + 1))) else (some false)))) else (none)) else (some true)
def spec_l01Masks.f (k : Nat) (a0 : Int) (l1 : List Int) : Option (Bool) := spec_l01Masks.l0 k a0 l1 0

set_option maxHeartbeats 8000000 in
set_option maxRecDepth 100000 in
theorem spec_l01Masks.calls (k : Nat) (a0 : Int) (A1 : Option Addr) (c1 : Nat) (l1 : List Int) (r : Bool) (w : World) (hr1 : Kd.C (Kd.int .i64) w A1 l1.length l1) (hc1 : l1.length ≤ c1) (h : spec_l01Masks.f k a0 l1 = some r) :
  Calls Tryd.prog 43 #[.int .i64 a0, .slice A1 l1.length c1] w fun e w' => e = .returned (.bool r) ∧ Drawn0 w w' := by
 have HR1 := zA hr1
 have HC1 := zA hc1
 clear hr1 hc1
 have H := h
 unfold spec_l01Masks.f at H
 clear h
 have H' := zA H
 clear H
 go_enter Tryd.func43, Tryd.ntmps43
 go_wp2
 repeat (go_quiet (fail); try go_wp2)
 go_loopg [5] k (fun kq v5 w' => ∃ (x5_1 : Int), v5 = .int .i64 x5_1 ∧ Aside0 (spec_l01Masks.l0 kq a0 l1 x5_1 = some r) ∧ Aside0 (kq ≤ k) ∧ Drawn0 w w')
 case atStart => exact ⟨(0), zs, H', ⟨Nat.le_refl _⟩, by repeat (first | exact Drawn0.refl _ | apply Drawn0.step)⟩
 case round =>
  clear H'
  try clear c1
  obtain ⟨x5_1, rfl, HA, HK1, ⟨m1, rfl⟩⟩ := hrel
  cases gk with
  | zero => exact absurd HA.out (by simp [spec_l01Masks.l0])
  | succ k1 =>
   have H := HA.out
   clear HA
   simp only [spec_l01Masks.l0] at H
   by_cases c3 : x5_1 < (l1.length : Int)
   ·rw [if_pos c3] at H
    have c3b0 : decide (x5_1 < (l1.length : Int)) = true := decide_eq_true c3
    clear c3
    by_cases c4 : 0 ≤ x5_1
    ·rw [if_pos c4] at H
     have c4b0 : decide (0 ≤ x5_1) = true := decide_eq_true c4
     clear c4
     obtain ⟨t105, A5, H⟩ := zb H
     try dsimp only at H
     obtain ⟨t106, A6, H⟩ := zb H
     try dsimp only at H
     by_cases c7 : t106 = true
     ·subst c7
      rw [if_pos rfl] at H
      have H' := zA H
      clear H
      have p104 : 0 ≤ (x5_1 : Int) := zd
      have q104 : x5_1 < (l1.length : Int) := zd
      obtain ⟨ad104, e104, hx104_0⟩ := Kd.at_int HR1.out x5_1 p104 q104
      cases e104
      replace p104 := eq_true p104
      replace q104 := eq_true q104
      go_wp2_with (first | (go_at_call 58; (with_reducible refine (spec_l01Full.calls a0 t105 _ A5.out).mono ?_); rintro e w' ⟨rfl, ⟨nd, rfl⟩⟩; (try exact zw)) | (go_at_call 42; (with_reducible refine (spec_l01In.calls (rd l1 x5_1) 0 t105 true _ A6.out).mono ?_); rintro e w' ⟨rfl, ⟨nd, rfl⟩⟩; (try exact zw)))
      repeat (go_quiet (first | (go_at_call 58; (with_reducible refine (spec_l01Full.calls a0 t105 _ A5.out).mono ?_); rintro e w' ⟨rfl, ⟨nd, rfl⟩⟩; (try exact zw)) | (go_at_call 42; (with_reducible refine (spec_l01In.calls (rd l1 x5_1) 0 t105 true _ A6.out).mono ?_); rintro e w' ⟨rfl, ⟨nd, rfl⟩⟩; (try exact zw))); try go_wp2_with (first | (go_at_call 58; (with_reducible refine (spec_l01Full.calls a0 t105 _ A5.out).mono ?_); rintro e w' ⟨rfl, ⟨nd, rfl⟩⟩; (try exact zw)) | (go_at_call 42; (with_reducible refine (spec_l01In.calls (rd l1 x5_1) 0 t105 true _ A6.out).mono ?_); rintro e w' ⟨rfl, ⟨nd, rfl⟩⟩; (try exact zw))))
      go_roundg k1
      case measure => have := HK1.out; omega
      case rel => exact ⟨(wrap64 (x5_1 + 1)), zs, H', ⟨by have := HK1.out; omega⟩, by repeat (first | exact Drawn0.refl _ | apply Drawn0.step)⟩
     replace c7 := Bool.eq_false_iff.mpr c7
     subst c7
     rw [if_neg (show ¬ (false = true) by decide)] at H
     obtain rfl := Option.some.inj H
     have p104 : 0 ≤ (x5_1 : Int) := zd
     have q104 : x5_1 < (l1.length : Int) := zd
     obtain ⟨ad104, e104, hx104_0⟩ := Kd.at_int HR1.out x5_1 p104 q104
     cases e104
     replace p104 := eq_true p104
     replace q104 := eq_true q104
     go_wp2_with (first | (go_at_call 58; (with_reducible refine (spec_l01Full.calls a0 t105 _ A5.out).mono ?_); rintro e w' ⟨rfl, ⟨nd, rfl⟩⟩; (try exact zw)) | (go_at_call 42; (with_reducible refine (spec_l01In.calls (rd l1 x5_1) 0 t105 false _ A6.out).mono ?_); rintro e w' ⟨rfl, ⟨nd, rfl⟩⟩; (try exact zw)))
     repeat (go_quiet (first | (go_at_call 58; (with_reducible refine (spec_l01Full.calls a0 t105 _ A5.out).mono ?_); rintro e w' ⟨rfl, ⟨nd, rfl⟩⟩; (try exact zw)) | (go_at_call 42; (with_reducible refine (spec_l01In.calls (rd l1 x5_1) 0 t105 false _ A6.out).mono ?_); rintro e w' ⟨rfl, ⟨nd, rfl⟩⟩; (try exact zw))); try go_wp2_with (first | (go_at_call 58; (with_reducible refine (spec_l01Full.calls a0 t105 _ A5.out).mono ?_); rintro e w' ⟨rfl, ⟨nd, rfl⟩⟩; (try exact zw)) | (go_at_call 42; (with_reducible refine (spec_l01In.calls (rd l1 x5_1) 0 t105 false _ A6.out).mono ?_); rintro e w' ⟨rfl, ⟨nd, rfl⟩⟩; (try exact zw))))
     go_ret
     exact ⟨zs, by repeat (first | exact Drawn0.refl _ | apply Drawn0.step)⟩
    rw [if_neg c4] at H
    exact absurd H (by simp)
   rw [if_neg c3] at H
   have c3b0 : decide (x5_1 < (l1.length : Int)) = false := decide_eq_false c3
   clear c3
   obtain rfl := Option.some.inj H
   go_wp2
   repeat (go_quiet (fail); try go_wp2)
   go_ret
   exact ⟨zs, by repeat (first | exact Drawn0.refl _ | apply Drawn0.step)⟩

/-! ### spec_l01Bit: function 44 -/
def spec_l01Bit.f (a0 : Int) (a1 : Int) : Option (Bool) := if 0 ≤ (IntKind.u64.wrap (a1)) then (some ((Go.bits .and .i64 (shr .i64 a0 (IntKind.u64.wrap (a1))) 1) == 1)) else (none)
set_option maxHeartbeats 8000000 in
set_option maxRecDepth 100000 in
theorem spec_l01Bit.calls (a0 : Int) (a1 : Int) (r : Bool) (w : World) (h : spec_l01Bit.f a0 a1 = some r) :
  Calls Tryd.prog 44 #[.int .i64 a0, .int .i64 a1] w fun e w' => e = .returned (.bool r) ∧ Drawn0 w w' := by
 have H := h
 unfold spec_l01Bit.f at H
 clear h
 obtain ⟨ji3, hji3⟩ : ∃ j_ : Int, (IntKind.u64.wrap (a1)) = j_ := ⟨_, rfl⟩
 replace H : (if 0 ≤ (ji3) then (some ((Go.bits .and .i64 (shr .i64 a0 (ji3)) 1) == 1)) else (none)) = some r := by first | (rw [hji3] at H; exact H) | (simp only [hji3] at H ⊢; exact H)
 by_cases c4 : 0 ≤ (ji3)
 ·rw [if_pos c4] at H
  have c4b0 := eq_true c4
  have c4b1 : decide (0 ≤ (ji3)) = true := decide_eq_true c4
  clear c4
  obtain ⟨ji5, hji5⟩ : ∃ j_ : Int, (shr .i64 a0 (ji3)) = j_ := ⟨_, rfl⟩
  replace H : (some ((Go.bits .and .i64 (ji5) 1) == 1)) = some r := by first | (rw [hji5] at H; exact H) | (simp only [hji5] at H ⊢; exact H)
  have hji5_ : (a0 / 2 ^ min (ji3).toNat 64) = ji5 := hji5
  have hji5z : (ji3) ≤ 64 → (a0 / 2 ^ (ji3).toNat) = ji5 := shr_small hji5
  obtain rfl := Option.some.inj H
  go_enter Tryd.func44, Tryd.ntmps44
  go_wp2
  go_ret
  exact ⟨by first | rfl | (simp; done) | (simp only [← hji3, ← hji5] <;> (first | rfl | simp)) | (simp [*]; done), by repeat (first | exact Drawn0.refl _ | apply Drawn0.step)⟩
 rw [if_neg c4] at H
 exact absurd H (by simp)

/-! ### spec_l02Is: function 30 -/
mutual
def spec_l02Is.j0 : Nat → Bool → Int → List Int → Option (Bool)
 | 0, _, _, _ => none
 | k + 1, x24, x108000, x108001 => if x24 = true then (some false) else (spec_l02Is.l0 k 0 x108000 x108001)
def spec_l02Is.l0 : Nat → Int → Int → List Int → Option (Bool)
 | 0, _, _, _ => none
 | k + 1, x3, x108000, x108001 => if x3 < x108000 then (if 0 ≤ x3 then (if x3 < (x108001.length : Int) then ((spec_l01Bit.f (rd x108001 x3) x3).bind fun t111 => (if t111 = true then (spec_l02Is.l1 k x3 0 x108000 x108001) else (some false))) else (none)) else (none)) else (some true)
def spec_l02Is.l1 : Nat → Int → Int → Int → List Int → Option (Bool)
 | 0, _, _, _, _ => none
 | k + 1, x3, x4, x108000, x108001 => if x4 < x108000 then (if 0 ≤ x3 then (if x3 < (x108001.length : Int) then ((spec_l01Bit.f (rd x108001 x3) x4).bind fun t113 => (if 0 ≤ x4 then (if x4 < (x108001.length : Int) then ((spec_l01Bit.f (rd x108001 x4) x3).bind fun t115 => (if (t113 != t115) = true then (some false) else (spec_l02Is.l1 k x3 (wrap64 (x4 + 1)) x108000 x108001))) else (none)) else (none))) else (none)) else (none)) else (spec_l02Is.l0 k (wrap64 (x3 + 1)) x108000 x108001)
end
def spec_l02Is.f (k : Nat) (a0_0 : Int) (l0_1 : List Int) : Option (Bool) := (spec_l01In.f a0_0 0 8).bind fun t108 => (if t108 = true then (if (l0_1.length : Int) = a0_0 then ((spec_l01Masks.f k a0_0 l0_1).bind fun t109 => (spec_l02Is.j0 k (!t109) a0_0 l0_1)) else (spec_l02Is.j0 k true a0_0 l0_1)) else (spec_l02Is.j0 k true a0_0 l0_1))

set_option maxHeartbeats 8000000 in
set_option maxRecDepth 100000 in
theorem spec_l02Is.calls (k : Nat) (a0_0 : Int) (A0_1 : Option Addr) (c0_1 : Nat) (l0_1 : List Int) (r : Bool) (w : World) (hr0_1 : Kd.C (Kd.int .i64) w A0_1 l0_1.length l0_1) (hc0_1 : l0_1.length ≤ c0_1) (h : spec_l02Is.f k a0_0 l0_1 = some r) :
  Calls Tryd.prog 30 #[.agg #[.int .i64 a0_0, .slice A0_1 l0_1.length c0_1]] w fun e w' => e = .returned (.bool r) ∧ Below w.heap.size w w' := by
 have hu28 := Tryd.underlying28
 have HR0_1 := zA hr0_1
 have HC0_1 := zA hc0_1
 clear hr0_1 hc0_1
 have HB := zA (kW w.heap.size w)
 have H := h
 unfold spec_l02Is.f at H
 clear h
 have HC2 := zA H
 clear H
 go_enter Tryd.func30, Tryd.ntmps30
 go_upto_region 1 with (first | (refine zBE 1 #[.int .i64 a0_0, .slice A0_1 l0_1.length c0_1] 28 ?_; intro gb107 hg w3 hbox hb; have BK107 := zA (hbox); have GW107 := zA (zBH hg HB.out); have GE107 := zA (zBH hg HB.out); replace HB := zA (kQ (zQ HB.out) hb); clear hb hbox hg))
 repeat (go_quiet (first | (refine zBE 1 #[.int .i64 a0_0, .slice A0_1 l0_1.length c0_1] 28 ?_; intro gb107 hg w3 hbox hb; have n0_ := zA (kQ (zQ HB.out) hb); have n1_ := zA (hbox); have n2_ := zA (zBH hg HB.out); have n3_ := zA (zBH hg HB.out); clear HB; have HB := n0_; have BK107 := n1_; have GW107 := n2_; have GE107 := n3_; clear n0_ n1_ n2_ n3_; clear hb hbox hg)); go_upto_region 1 with (first | (refine zBE 1 #[.int .i64 a0_0, .slice A0_1 l0_1.length c0_1] 28 ?_; intro gb107 hg w3 hbox hb; have BK107 := zA (hbox); have GW107 := zA (zBH hg HB.out); have GE107 := zA (zBH hg HB.out); replace HB := zA (kQ (zQ HB.out) hb); clear hb hbox hg)))
 (try simp only [Act.put, zL, zM, zN])
 go_cut [24] (fun v24 wc => ∃ (kq : Nat) (x24_1 : Bool), v24 = .bool x24_1 ∧ Aside0 (spec_l02Is.j0 kq x24_1 a0_0 l0_1 = some r) ∧ Aside0 (kq ≤ k) ∧ Aside0 (wc.heap[gb107]? = some (.cells #[.int .i64 a0_0, (.slice A0_1 l0_1.length c0_1)] 28 (0, 0))) ∧ Aside0 (Below w.heap.size w wc))
 case first =>
  have H := HC2.out
  clear HC2
  obtain ⟨t108, A4, H⟩ := zb H
  try dsimp only at H
  by_cases c5 : t108 = true
  ·subst c5
   rw [if_pos rfl] at H
   by_cases c6 : (l0_1.length : Int) = a0_0
   ·rw [if_pos c6] at H
    obtain ⟨c6b0, c6b1⟩ := zT1 c6
    clear c6
    (first | rw [c6b0] | (simp only [i64_w, i32_w]; rw [c6b0]) | skip)
    obtain ⟨t109, A7, H⟩ := zb H
    try dsimp only at H
    have H' := zA H
    clear H
    obtain ⟨hcz8_0, hcz8_1, hfz8_0, hfz8_1⟩ := zB3 BK107.out
    go_wp2_with (first | (go_at_call 42; (with_reducible refine (spec_l01In.calls a0_0 0 8 true _ A4.out).mono ?_); rintro e w' ⟨rfl, ⟨nd, rfl⟩⟩; (try exact zw)) | (go_at_call 43; (with_reducible refine (spec_l01Masks.calls k a0_0 _ _ l0_1 t109 _ ?side1 ?side2 A7.out).mono ?_); (case side1 => exact zS (kO HR0_1.out (zT HB.out GE107.out))); (case side2 => exact HC0_1.out); rintro e w' ⟨rfl, ⟨nd, rfl⟩⟩; (try exact zw)))
    repeat (go_quiet (first | (go_at_call 42; (with_reducible refine (spec_l01In.calls a0_0 0 8 true _ A4.out).mono ?_); rintro e w' ⟨rfl, ⟨nd, rfl⟩⟩; (try exact zw)) | (go_at_call 43; (with_reducible refine (spec_l01Masks.calls k a0_0 _ _ l0_1 t109 _ ?side1 ?side2 A7.out).mono ?_); (case side1 => exact zS (kO HR0_1.out (zT HB.out GE107.out))); (case side2 => exact HC0_1.out); rintro e w' ⟨rfl, ⟨nd, rfl⟩⟩; (try exact zw))); try go_wp2_with (first | (go_at_call 42; (with_reducible refine (spec_l01In.calls a0_0 0 8 true _ A4.out).mono ?_); rintro e w' ⟨rfl, ⟨nd, rfl⟩⟩; (try exact zw)) | (go_at_call 43; (with_reducible refine (spec_l01Masks.calls k a0_0 _ _ l0_1 t109 _ ?side1 ?side2 A7.out).mono ?_); (case side1 => exact zS (kO HR0_1.out (zT HB.out GE107.out))); (case side2 => exact HC0_1.out); rintro e w' ⟨rfl, ⟨nd, rfl⟩⟩; (try exact zw))))
    go_meet
    case rel => exact ⟨_, (!t109), zs, H', ⟨by first | omega | exact Nat.le_refl _⟩, ⟨zR BK107.out⟩, ⟨zT HB.out GE107.out⟩⟩
   rw [if_neg c6] at H
   obtain ⟨c6b0, c6b1⟩ := zT2 c6
   (first | rw [c6b0] | (simp only [i64_w, i32_w]; rw [c6b0]) | skip)
   have H' := zA H
   clear H
   obtain ⟨hcz9_0, hcz9_1, hfz9_0, hfz9_1⟩ := zB3 BK107.out
   go_wp2_with (first | (go_at_call 42; (with_reducible refine (spec_l01In.calls a0_0 0 8 true _ A4.out).mono ?_); rintro e w' ⟨rfl, ⟨nd, rfl⟩⟩; (try exact zw)))
   repeat (go_quiet (first | (go_at_call 42; (with_reducible refine (spec_l01In.calls a0_0 0 8 true _ A4.out).mono ?_); rintro e w' ⟨rfl, ⟨nd, rfl⟩⟩; (try exact zw))); try go_wp2_with (first | (go_at_call 42; (with_reducible refine (spec_l01In.calls a0_0 0 8 true _ A4.out).mono ?_); rintro e w' ⟨rfl, ⟨nd, rfl⟩⟩; (try exact zw))))
   go_meet
   case rel => exact ⟨_, (true), zs, H', ⟨by first | omega | exact Nat.le_refl _⟩, ⟨zR BK107.out⟩, ⟨zT HB.out GE107.out⟩⟩
  replace c5 := Bool.eq_false_iff.mpr c5
  subst c5
  rw [if_neg (show ¬ (false = true) by decide)] at H
  have H' := zA H
  clear H
  obtain ⟨hcz10_0, hcz10_1, hfz10_0, hfz10_1⟩ := zB3 BK107.out
  go_wp2_with (first | (go_at_call 42; (with_reducible refine (spec_l01In.calls a0_0 0 8 false _ A4.out).mono ?_); rintro e w' ⟨rfl, ⟨nd, rfl⟩⟩; (try exact zw)))
  repeat (go_quiet (first | (go_at_call 42; (with_reducible refine (spec_l01In.calls a0_0 0 8 false _ A4.out).mono ?_); rintro e w' ⟨rfl, ⟨nd, rfl⟩⟩; (try exact zw))); try go_wp2_with (first | (go_at_call 42; (with_reducible refine (spec_l01In.calls a0_0 0 8 false _ A4.out).mono ?_); rintro e w' ⟨rfl, ⟨nd, rfl⟩⟩; (try exact zw))))
  go_meet
  case rel => exact ⟨_, (true), zs, H', ⟨by first | omega | exact Nat.le_refl _⟩, ⟨zR BK107.out⟩, ⟨zT HB.out GE107.out⟩⟩
 case rest =>
  clear HC2
  try clear c3
  try clear c5
  try clear c6
  try clear hcz10_0
  try clear hcz10_1
  try clear hcz8_0
  try clear hcz8_1
  try clear hcz9_0
  try clear hcz9_1
  try clear hfz10_0
  try clear hfz10_1
  try clear hfz8_0
  try clear hfz8_1
  try clear hfz9_0
  try clear hfz9_1
  obtain ⟨kq, x24_1, rfl, HA, HJ1, BK107, HB⟩ := hcut
  cases kq with
  | zero => exact absurd HA.out (by simp [spec_l02Is.j0])
  | succ kj1 =>
   have H := HA.out
   clear HA
   simp only [spec_l02Is.j0] at H
   by_cases c11 : x24_1 = true
   ·subst c11
    rw [if_pos rfl] at H
    obtain rfl := Option.some.inj H
    go_wp2
    repeat (go_quiet (fail); try go_wp2)
    go_ret
    exact ⟨zr, zT HB.out GE107.out⟩
   replace c11 := Bool.eq_false_iff.mpr c11
   subst c11
   rw [if_neg (show ¬ (false = true) by decide)] at H
   have H' := zA H
   clear H
   go_wp2
   repeat (go_quiet (fail); try go_wp2)
   go_loopg [3] kj1 (fun kq v3 w' => ∃ (x3_2 : Int), v3 = .int .i64 x3_2 ∧ Aside0 (spec_l02Is.l0 kq x3_2 a0_0 l0_1 = some r) ∧ Aside0 (kq ≤ kj1) ∧ Aside0 (w'.heap[gb107]? = some (.cells #[.int .i64 a0_0, (.slice A0_1 l0_1.length c0_1)] 28 (0, 0))) ∧ Aside0 (Below w.heap.size w w'))
   case atStart => exact ⟨(0), zs, H', ⟨Nat.le_refl _⟩, ⟨zR BK107.out⟩, ⟨zT HB.out GE107.out⟩⟩
   case round =>
    clear H'
    try clear c1
    try clear c3
    try clear c5
    try clear c6
    try clear c11
    try clear hcz10_0
    try clear hcz10_1
    try clear hcz8_0
    try clear hcz8_1
    try clear hcz9_0
    try clear hcz9_1
    try clear hfz10_0
    try clear hfz10_1
    try clear hfz8_0
    try clear hfz8_1
    try clear hfz9_0
    try clear hfz9_1
    obtain ⟨x3_2, rfl, HA, HK2, BK107, HB⟩ := hrel
    cases gk with
    | zero => exact absurd HA.out (by simp [spec_l02Is.l0])
    | succ k2 =>
     have H := HA.out
     clear HA
     simp only [spec_l02Is.l0] at H
     by_cases c12 : x3_2 < a0_0
     ·rw [if_pos c12] at H
      have c12b0 : decide (x3_2 < a0_0) = true := decide_eq_true c12
      clear c12
      by_cases c13 : 0 ≤ x3_2
      ·rw [if_pos c13] at H
       have c13b0 : decide (0 ≤ x3_2) = true := decide_eq_true c13
       clear c13
       by_cases c14 : x3_2 < (l0_1.length : Int)
       ·rw [if_pos c14] at H
        have c14b0 : decide (x3_2 < (l0_1.length : Int)) = true := decide_eq_true c14
        clear c14
        obtain ⟨t111, A15, H⟩ := zb H
        try dsimp only at H
        by_cases c16 : t111 = true
        ·subst c16
         rw [if_pos rfl] at H
         have H' := zA H
         clear H
         obtain ⟨hcz17_0, hcz17_1, hfz17_0, hfz17_1⟩ := zB3 BK107.out
         have p110 : 0 ≤ (x3_2 : Int) := zd
         have q110 : x3_2 < (l0_1.length : Int) := zd
         obtain ⟨ad110, e110, hx110_0⟩ := Kd.at_int HR0_1.out x3_2 p110 q110
         cases e110
         replace hx110_0 := (HB.out.cell (jG w _ hx110_0)).trans hx110_0
         replace p110 := eq_true p110
         replace q110 := eq_true q110
         go_wp2_with (first | (go_at_call 44; (with_reducible refine (spec_l01Bit.calls (rd l0_1 x3_2) x3_2 true _ A15.out).mono ?_); rintro e w' ⟨rfl, ⟨nd, rfl⟩⟩; (try exact zw)))
         repeat (go_quiet (first | (go_at_call 44; (with_reducible refine (spec_l01Bit.calls (rd l0_1 x3_2) x3_2 true _ A15.out).mono ?_); rintro e w' ⟨rfl, ⟨nd, rfl⟩⟩; (try exact zw))); try go_wp2_with (first | (go_at_call 44; (with_reducible refine (spec_l01Bit.calls (rd l0_1 x3_2) x3_2 true _ A15.out).mono ?_); rintro e w' ⟨rfl, ⟨nd, rfl⟩⟩; (try exact zw))))
         go_loopg [4] k2 (fun kq v4 w' => ∃ (x4_3 : Int), v4 = .int .i64 x4_3 ∧ Aside0 (spec_l02Is.l1 kq x3_2 x4_3 a0_0 l0_1 = some r) ∧ Aside0 (kq ≤ k2) ∧ Aside0 (w'.heap[gb107]? = some (.cells #[.int .i64 a0_0, (.slice (some ad110) l0_1.length c0_1)] 28 (0, 0))) ∧ Aside0 (Below w.heap.size w w'))
         case atStart => exact ⟨(0), zs, H', ⟨Nat.le_refl _⟩, ⟨zR BK107.out⟩, ⟨zT HB.out GE107.out⟩⟩
         case round =>
          clear H'
          try clear c1
          try clear hx1
          try clear c3
          try clear c5
          try clear c6
          try clear c11
          try clear hx11
          try clear c12
          try clear c13
          try clear c14
          try clear c16
          try clear hcz10_0
          try clear hcz10_1
          try clear hcz17_0
          try clear hcz17_1
          try clear hcz8_0
          try clear hcz8_1
          try clear hcz9_0
          try clear hcz9_1
          try clear hfz10_0
          try clear hfz10_1
          try clear hfz17_0
          try clear hfz17_1
          try clear hfz8_0
          try clear hfz8_1
          try clear hfz9_0
          try clear hfz9_1
          try clear hx110_0
          obtain ⟨x4_3, rfl, HA, HK3, BK107, HB⟩ := hrel
          cases gk with
          | zero => exact absurd HA.out (by simp [spec_l02Is.l1])
          | succ k3 =>
           have H := HA.out
           clear HA
           simp only [spec_l02Is.l1] at H
           by_cases c18 : x4_3 < a0_0
           ·rw [if_pos c18] at H
            have c18b0 : decide (x4_3 < a0_0) = true := decide_eq_true c18
            clear c18
            by_cases c19 : 0 ≤ x3_2
            ·rw [if_pos c19] at H
             have c19b0 : decide (0 ≤ x3_2) = true := decide_eq_true c19
             clear c19
             by_cases c20 : x3_2 < (l0_1.length : Int)
             ·rw [if_pos c20] at H
              have c20b0 : decide (x3_2 < (l0_1.length : Int)) = true := decide_eq_true c20
              clear c20
              obtain ⟨t113, A21, H⟩ := zb H
              try dsimp only at H
              by_cases c22 : 0 ≤ x4_3
              ·rw [if_pos c22] at H
               have c22b0 : decide (0 ≤ x4_3) = true := decide_eq_true c22
               clear c22
               by_cases c23 : x4_3 < (l0_1.length : Int)
               ·rw [if_pos c23] at H
                have c23b0 : decide (x4_3 < (l0_1.length : Int)) = true := decide_eq_true c23
                clear c23
                obtain ⟨t115, A24, H⟩ := zb H
                try dsimp only at H
                by_cases c25 : (t113 != t115) = true
                ·rw [if_pos c25] at H
                 have c25b0 : (t113 != t115) = true := c25
                 (try (have c25b1 : decide (t113 = t115) = false := by simpa using c25))
                 (try (have c25b2 : (t113 == t115) = false := by simpa using c25))
                 (try (have c25b3 : ¬ (t113 = t115) := by simpa using c25))
                 clear c25
                 obtain rfl := Option.some.inj H
                 obtain ⟨hcz26_0, hcz26_1, hfz26_0, hfz26_1⟩ := zB3 BK107.out
                 have p112 : 0 ≤ (x3_2 : Int) := zd
                 have q112 : x3_2 < (l0_1.length : Int) := zd
                 obtain ⟨ad112, e112, hx112_0⟩ := Kd.at_int HR0_1.out x3_2 p112 q112
                 obtain rfl : ad110 = ad112 := (by injection e112)
                 replace hx112_0 := (HB.out.cell (jG w _ hx112_0)).trans hx112_0
                 replace p112 := eq_true p112
                 replace q112 := eq_true q112
                 go_wp2_with (first | (go_at_call 44; (with_reducible refine (spec_l01Bit.calls (rd l0_1 x3_2) x4_3 t113 _ A21.out).mono ?_); rintro e w' ⟨rfl, ⟨nd, rfl⟩⟩; (try exact zw); have p114 : 0 ≤ (x4_3 : Int) := zd; have q114 : x4_3 < (l0_1.length : Int) := zd; obtain ⟨ad114, e114, hx114_0⟩ := Kd.at_int HR0_1.out x4_3 p114 q114; obtain rfl : ad110 = ad114 := (by injection e114); replace hx114_0 := (HB.out.cell (jG w _ hx114_0)).trans hx114_0; replace p114 := eq_true p114; replace q114 := eq_true q114) | (go_at_call 44; (with_reducible refine (spec_l01Bit.calls (rd l0_1 x4_3) x3_2 t115 _ A24.out).mono ?_); rintro e w' ⟨rfl, ⟨nd, rfl⟩⟩; (try exact zw)))
                 repeat (go_quiet (first | (go_at_call 44; (with_reducible refine (spec_l01Bit.calls (rd l0_1 x3_2) x4_3 t113 _ A21.out).mono ?_); rintro e w' ⟨rfl, ⟨nd, rfl⟩⟩; (try exact zw); have p114 : 0 ≤ (x4_3 : Int) := zd; have q114 : x4_3 < (l0_1.length : Int) := zd; obtain ⟨ad114, e114, hx114_0⟩ := Kd.at_int HR0_1.out x4_3 p114 q114; obtain rfl : ad110 = ad114 := (by injection e114); replace hx114_0 := (HB.out.cell (jG w _ hx114_0)).trans hx114_0; replace p114 := eq_true p114; replace q114 := eq_true q114) | (go_at_call 44; (with_reducible refine (spec_l01Bit.calls (rd l0_1 x4_3) x3_2 t115 _ A24.out).mono ?_); rintro e w' ⟨rfl, ⟨nd, rfl⟩⟩; (try exact zw))); try go_wp2_with (first | (go_at_call 44; (with_reducible refine (spec_l01Bit.calls (rd l0_1 x3_2) x4_3 t113 _ A21.out).mono ?_); rintro e w' ⟨rfl, ⟨nd, rfl⟩⟩; (try exact zw); have p114 : 0 ≤ (x4_3 : Int) := zd; have q114 : x4_3 < (l0_1.length : Int) := zd; obtain ⟨ad114, e114, hx114_0⟩ := Kd.at_int HR0_1.out x4_3 p114 q114; obtain rfl : ad110 = ad114 := (by injection e114); replace hx114_0 := (HB.out.cell (jG w _ hx114_0)).trans hx114_0; replace p114 := eq_true p114; replace q114 := eq_true q114) | (go_at_call 44; (with_reducible refine (spec_l01Bit.calls (rd l0_1 x4_3) x3_2 t115 _ A24.out).mono ?_); rintro e w' ⟨rfl, ⟨nd, rfl⟩⟩; (try exact zw))))
                 go_ret
                 exact ⟨zr, zT HB.out GE107.out⟩
                rw [if_neg c25] at H
                have c25b0 : (t113 != t115) = false := by simpa using c25
                (try (have c25b1 : decide (t113 = t115) = true := by simpa using c25))
                (try (have c25b2 : (t113 == t115) = true := by simpa using c25))
                clear c25
                have H' := zA H
                clear H
                obtain ⟨hcz27_0, hcz27_1, hfz27_0, hfz27_1⟩ := zB3 BK107.out
                have p112 : 0 ≤ (x3_2 : Int) := zd
                have q112 : x3_2 < (l0_1.length : Int) := zd
                obtain ⟨ad112, e112, hx112_0⟩ := Kd.at_int HR0_1.out x3_2 p112 q112
                obtain rfl : ad110 = ad112 := (by injection e112)
                replace hx112_0 := (HB.out.cell (jG w _ hx112_0)).trans hx112_0
                replace p112 := eq_true p112
                replace q112 := eq_true q112
                go_wp2_with (first | (go_at_call 44; (with_reducible refine (spec_l01Bit.calls (rd l0_1 x3_2) x4_3 t113 _ A21.out).mono ?_); rintro e w' ⟨rfl, ⟨nd, rfl⟩⟩; (try exact zw); have p114 : 0 ≤ (x4_3 : Int) := zd; have q114 : x4_3 < (l0_1.length : Int) := zd; obtain ⟨ad114, e114, hx114_0⟩ := Kd.at_int HR0_1.out x4_3 p114 q114; obtain rfl : ad110 = ad114 := (by injection e114); replace hx114_0 := (HB.out.cell (jG w _ hx114_0)).trans hx114_0; replace p114 := eq_true p114; replace q114 := eq_true q114) | (go_at_call 44; (with_reducible refine (spec_l01Bit.calls (rd l0_1 x4_3) x3_2 t115 _ A24.out).mono ?_); rintro e w' ⟨rfl, ⟨nd, rfl⟩⟩; (try exact zw)))
                repeat (go_quiet (first | (go_at_call 44; (with_reducible refine (spec_l01Bit.calls (rd l0_1 x3_2) x4_3 t113 _ A21.out).mono ?_); rintro e w' ⟨rfl, ⟨nd, rfl⟩⟩; (try exact zw); have p114 : 0 ≤ (x4_3 : Int) := zd; have q114 : x4_3 < (l0_1.length : Int) := zd; obtain ⟨ad114, e114, hx114_0⟩ := Kd.at_int HR0_1.out x4_3 p114 q114; obtain rfl : ad110 = ad114 := (by injection e114); replace hx114_0 := (HB.out.cell (jG w _ hx114_0)).trans hx114_0; replace p114 := eq_true p114; replace q114 := eq_true q114) | (go_at_call 44; (with_reducible refine (spec_l01Bit.calls (rd l0_1 x4_3) x3_2 t115 _ A24.out).mono ?_); rintro e w' ⟨rfl, ⟨nd, rfl⟩⟩; (try exact zw))); try go_wp2_with (first | (go_at_call 44; (with_reducible refine (spec_l01Bit.calls (rd l0_1 x3_2) x4_3 t113 _ A21.out).mono ?_); rintro e w' ⟨rfl, ⟨nd, rfl⟩⟩; (try exact zw); have p114 : 0 ≤ (x4_3 : Int) := zd; have q114 : x4_3 < (l0_1.length : Int) := zd; obtain ⟨ad114, e114, hx114_0⟩ := Kd.at_int HR0_1.out x4_3 p114 q114; obtain rfl : ad110 = ad114 := (by injection e114); replace hx114_0 := (HB.out.cell (jG w _ hx114_0)).trans hx114_0; replace p114 := eq_true p114; replace q114 := eq_true q114) | (go_at_call 44; (with_reducible refine (spec_l01Bit.calls (rd l0_1 x4_3) x3_2 t115 _ A24.out).mono ?_); rintro e w' ⟨rfl, ⟨nd, rfl⟩⟩; (try exact zw))))
                go_roundg k3
                case measure => have := HJ1.out; have := HK2.out; have := HK3.out; omega
                case rel => exact ⟨(wrap64 (x4_3 + 1)), zs, H', ⟨by have := HJ1.out; have := HK2.out; have := HK3.out; omega⟩, ⟨zR BK107.out⟩, ⟨zT HB.out GE107.out⟩⟩
               rw [if_neg c23] at H
               exact absurd H (by simp)
              rw [if_neg c22] at H
              exact absurd H (by simp)
             rw [if_neg c20] at H
             exact absurd H (by simp)
            rw [if_neg c19] at H
            exact absurd H (by simp)
           rw [if_neg c18] at H
           have c18b0 : decide (x4_3 < a0_0) = false := decide_eq_false c18
           clear c18
           have H' := zA H
           clear H
           obtain ⟨hcz28_0, hcz28_1, hfz28_0, hfz28_1⟩ := zB3 BK107.out
           go_wp2
           repeat (go_quiet (fail); try go_wp2)
           go_roundg k3
           case measure => have := HJ1.out; have := HK2.out; have := HK3.out; omega
           case rel => exact ⟨(wrap64 (x3_2 + 1)), zs, H', ⟨by have := HJ1.out; have := HK2.out; have := HK3.out; omega⟩, ⟨zR BK107.out⟩, ⟨zT HB.out GE107.out⟩⟩
        replace c16 := Bool.eq_false_iff.mpr c16
        subst c16
        rw [if_neg (show ¬ (false = true) by decide)] at H
        obtain rfl := Option.some.inj H
        obtain ⟨hcz29_0, hcz29_1, hfz29_0, hfz29_1⟩ := zB3 BK107.out
        have p110 : 0 ≤ (x3_2 : Int) := zd
        have q110 : x3_2 < (l0_1.length : Int) := zd
        obtain ⟨ad110, e110, hx110_0⟩ := Kd.at_int HR0_1.out x3_2 p110 q110
        cases e110
        replace hx110_0 := (HB.out.cell (jG w _ hx110_0)).trans hx110_0
        replace p110 := eq_true p110
        replace q110 := eq_true q110
        go_wp2_with (first | (go_at_call 44; (with_reducible refine (spec_l01Bit.calls (rd l0_1 x3_2) x3_2 false _ A15.out).mono ?_); rintro e w' ⟨rfl, ⟨nd, rfl⟩⟩; (try exact zw)))
        repeat (go_quiet (first | (go_at_call 44; (with_reducible refine (spec_l01Bit.calls (rd l0_1 x3_2) x3_2 false _ A15.out).mono ?_); rintro e w' ⟨rfl, ⟨nd, rfl⟩⟩; (try exact zw))); try go_wp2_with (first | (go_at_call 44; (with_reducible refine (spec_l01Bit.calls (rd l0_1 x3_2) x3_2 false _ A15.out).mono ?_); rintro e w' ⟨rfl, ⟨nd, rfl⟩⟩; (try exact zw))))
        go_ret
        exact ⟨zr, zT HB.out GE107.out⟩
       rw [if_neg c14] at H
       exact absurd H (by simp)
      rw [if_neg c13] at H
      exact absurd H (by simp)
     rw [if_neg c12] at H
     have c12b0 : decide (x3_2 < a0_0) = false := decide_eq_false c12
     clear c12
     obtain rfl := Option.some.inj H
     obtain ⟨hcz30_0, hcz30_1, hfz30_0, hfz30_1⟩ := zB3 BK107.out
     go_wp2
     repeat (go_quiet (fail); try go_wp2)
     go_ret
     exact ⟨zr, zT HB.out GE107.out⟩

/-! ### spec_l03Word: function 31 -/
def spec_l03Word.l0 : Nat → Int → List Int → Int → Option (Bool)
 | 0, _, _, _ => none
 | k + 1, x0, x1, x5 => if x5 < (x1.length : Int) then (if 0 ≤ x5 then ((spec_l01In.f (rd x1 x5) 0 (wrap64 (x0 - 1))).bind fun t117 => (if t117 = true then (spec_l03Word.l0 k x0 x1 (wrap64 (x5 + 1))) else (some false))) else (none)) else (some true)
def spec_l03Word.f (k : Nat) (a0 : Int) (l1 : List Int) : Option (Bool) := if (l1.length : Int) > 24 then (some false) else (spec_l03Word.l0 k a0 l1 0)

set_option maxHeartbeats 8000000 in
set_option maxRecDepth 100000 in
theorem spec_l03Word.calls (k : Nat) (a0 : Int) (A1 : Option Addr) (c1 : Nat) (l1 : List Int) (r : Bool) (w : World) (hr1 : Kd.C (Kd.int .i64) w A1 l1.length l1) (hc1 : l1.length ≤ c1) (h : spec_l03Word.f k a0 l1 = some r) :
  Calls Tryd.prog 31 #[.int .i64 a0, .slice A1 l1.length c1] w fun e w' => e = .returned (.bool r) ∧ Drawn0 w w' := by
 have HR1 := zA hr1
 have HC1 := zA hc1
 clear hr1 hc1
 have H := h
 unfold spec_l03Word.f at H
 clear h
 by_cases c3 : (l1.length : Int) > 24
 ·rw [if_pos c3] at H
  have c3b0 : decide (24 < (l1.length : Int)) = true := decide_eq_true c3
  have c3b1 : decide (24 < l1.length) = true := decide_eq_true (by omega)
  clear c3
  obtain rfl := Option.some.inj H
  go_enter Tryd.func31, Tryd.ntmps31
  go_wp2
  go_ret
  exact ⟨zs, by repeat (first | exact Drawn0.refl _ | apply Drawn0.step)⟩
 rw [if_neg c3] at H
 have c3b0 : decide (24 < (l1.length : Int)) = false := decide_eq_false c3
 have c3b1 : decide (24 < l1.length) = false := decide_eq_false (by omega)
 clear c3
 have H' := zA H
 clear H
 go_enter Tryd.func31, Tryd.ntmps31
 go_wp2
 go_loopg [5] k (fun kq v5 w' => ∃ (x5_1 : Int), v5 = .int .i64 x5_1 ∧ Aside0 (spec_l03Word.l0 kq a0 l1 x5_1 = some r) ∧ Aside0 (kq ≤ k) ∧ Drawn0 w w')
 case atStart => exact ⟨(0), zs, H', ⟨Nat.le_refl _⟩, by repeat (first | exact Drawn0.refl _ | apply Drawn0.step)⟩
 case round =>
  clear H'
  try clear c1
  try clear c3
  obtain ⟨x5_1, rfl, HA, HK1, ⟨m1, rfl⟩⟩ := hrel
  cases gk with
  | zero => exact absurd HA.out (by simp [spec_l03Word.l0])
  | succ k1 =>
   have H := HA.out
   clear HA
   simp only [spec_l03Word.l0] at H
   by_cases c4 : x5_1 < (l1.length : Int)
   ·rw [if_pos c4] at H
    have c4b0 : decide (x5_1 < (l1.length : Int)) = true := decide_eq_true c4
    clear c4
    by_cases c5 : 0 ≤ x5_1
    ·rw [if_pos c5] at H
     have c5b0 : decide (0 ≤ x5_1) = true := decide_eq_true c5
     clear c5
     obtain ⟨t117, A6, H⟩ := zb H
     try dsimp only at H
     by_cases c7 : t117 = true
     ·subst c7
      rw [if_pos rfl] at H
      have H' := zA H
      clear H
      have p116 : 0 ≤ (x5_1 : Int) := zd
      have q116 : x5_1 < (l1.length : Int) := zd
      obtain ⟨ad116, e116, hx116_0⟩ := Kd.at_int HR1.out x5_1 p116 q116
      cases e116
      replace p116 := eq_true p116
      replace q116 := eq_true q116
      go_wp2_with (first | (refine zO (some 21) Tryd.func42 #[.int .i64 (rd l1 x5_1), .int .i64 0, .int .i64 (wrap64 (a0 - 1))] ?_; (with_reducible refine (spec_l01In.calls (rd l1 x5_1) 0 (wrap64 (a0 - 1)) true _ A6.out).mono ?_); rintro e w' ⟨rfl, ⟨nd, rfl⟩⟩; refine ⟨_, rfl, ?_⟩))
      go_roundg k1
      case measure => have := HK1.out; omega
      case rel => exact ⟨(wrap64 (x5_1 + 1)), zs, H', ⟨by have := HK1.out; omega⟩, by repeat (first | exact Drawn0.refl _ | apply Drawn0.step)⟩
     replace c7 := Bool.eq_false_iff.mpr c7
     subst c7
     rw [if_neg (show ¬ (false = true) by decide)] at H
     obtain rfl := Option.some.inj H
     have p116 : 0 ≤ (x5_1 : Int) := zd
     have q116 : x5_1 < (l1.length : Int) := zd
     obtain ⟨ad116, e116, hx116_0⟩ := Kd.at_int HR1.out x5_1 p116 q116
     cases e116
     replace p116 := eq_true p116
     replace q116 := eq_true q116
     go_wp2_with (first | (refine zO (some 21) Tryd.func42 #[.int .i64 (rd l1 x5_1), .int .i64 0, .int .i64 (wrap64 (a0 - 1))] ?_; (with_reducible refine (spec_l01In.calls (rd l1 x5_1) 0 (wrap64 (a0 - 1)) false _ A6.out).mono ?_); rintro e w' ⟨rfl, ⟨nd, rfl⟩⟩; refine ⟨_, rfl, ?_⟩))
     go_ret
     exact ⟨zs, by repeat (first | exact Drawn0.refl _ | apply Drawn0.step)⟩
    rw [if_neg c5] at H
    exact absurd H (by simp)
   rw [if_neg c4] at H
   have c4b0 : decide (x5_1 < (l1.length : Int)) = false := decide_eq_false c4
   clear c4
   obtain rfl := Option.some.inj H
   go_wp2
   go_ret
   exact ⟨zs, by repeat (first | exact Drawn0.refl _ | apply Drawn0.step)⟩

/-! ### spec_l03Code: function 18 -/
def spec_l03Code.f (k : Nat) (a0_0 : Int) (l0_1 : List Int) (l1 : List Int) (l2 : List Int) : Option (Int) := (spec_l02Is.f k a0_0 l0_1).bind fun t119 => (if t119 = true then ((spec_l03Word.f k a0_0 l1).bind fun t120 => (if t120 = true then ((spec_l03Word.f k a0_0 l2).bind fun t121 => (if t121 = true then (some 0) else (some 2))) else (some 2))) else (some 1))

set_option maxHeartbeats 8000000 in
set_option maxRecDepth 100000 in
theorem spec_l03Code.calls (k : Nat) (a0_0 : Int) (A0_1 : Option Addr) (c0_1 : Nat) (l0_1 : List Int) (A1 : Option Addr) (c1 : Nat) (l1 : List Int) (A2 : Option Addr) (c2 : Nat) (l2 : List Int) (r : Int) (w : World) (hr0_1 : Kd.C (Kd.int .i64) w A0_1 l0_1.length l0_1) (hc0_1 : l0_1.length ≤ c0_1) (hr1 : Kd.C (Kd.int .i64) w A1 l1.length l1) (hc1 : l1.length ≤ c1) (hr2 : Kd.C (Kd.int .i64) w A2 l2.length l2) (hc2 : l2.length ≤ c2) (h : spec_l03Code.f k a0_0 l0_1 l1 l2 = some r) :
  Calls Tryd.prog 18 #[.agg #[.int .i64 a0_0, .slice A0_1 l0_1.length c0_1], .slice A1 l1.length c1, .slice A2 l2.length c2] w fun e w' => e = .returned (.int .i64 r) ∧ Below w.heap.size w w' := by
 have hu28 := Tryd.underlying28
 have HR0_1 := zA hr0_1
 have HC0_1 := zA hc0_1
 clear hr0_1 hc0_1
 have HR1 := zA hr1
 have HC1 := zA hc1
 clear hr1 hc1
 have HR2 := zA hr2
 have HC2 := zA hc2
 clear hr2 hc2
 have HB := zA (kW w.heap.size w)
 have H := h
 unfold spec_l03Code.f at H
 clear h
 obtain ⟨t119, A4, H⟩ := zb H
 try dsimp only at H
 by_cases c5 : t119 = true
 ·subst c5
  rw [if_pos rfl] at H
  obtain ⟨t120, A6, H⟩ := zb H
  try dsimp only at H
  by_cases c7 : t120 = true
  ·subst c7
   rw [if_pos rfl] at H
   obtain ⟨t121, A8, H⟩ := zb H
   try dsimp only at H
   by_cases c9 : t121 = true
   ·subst c9
    rw [if_pos rfl] at H
    obtain rfl := Option.some.inj H
    go_enter Tryd.func18, Tryd.ntmps18
    go_wp2_with (first | (refine zBE 3 #[.int .i64 a0_0, .slice A0_1 l0_1.length c0_1] 28 ?_; intro gb118 hg w10 hbox hb; have BK118 := zA (hbox); have GW118 := zA (zBH hg HB.out); have GE118 := zA (zBH hg HB.out); replace HB := zA (kQ (zQ HB.out) hb); clear hb hbox hg; obtain ⟨hcz11_0, hcz11_1, hfz11_0, hfz11_1⟩ := zB3 BK118.out) | (refine zO (some 8) Tryd.func30 #[.agg #[.int .i64 a0_0, .slice A0_1 l0_1.length c0_1]] ?_; (with_reducible refine (spec_l02Is.calls k a0_0 _ _ l0_1 true _ ?side1 ?side2 A4.out).mono ?_); (case side1 => exact zS (kO HR0_1.out HB.out)); (case side2 => exact HC0_1.out); rintro e w12 ⟨rfl, hb⟩; refine ⟨_, rfl, ?_⟩; replace BK118 := zA (zB1 BK118.out hb); replace HB := zA (kQ (zT HB.out GE118.out) hb); (try clear hb); obtain ⟨hcz13_0, hcz13_1, hfz13_0, hfz13_1⟩ := zB3 BK118.out) | (refine zO (some 13) Tryd.func31 #[.int .i64 a0_0, .slice A1 l1.length c1] ?_; (with_reducible refine (spec_l03Word.calls k a0_0 _ _ l1 true _ ?side1 ?side2 A6.out).mono ?_); (case side1 => exact zS (kO HR1.out HB.out)); (case side2 => exact HC1.out); rintro e w' ⟨rfl, ⟨nd, rfl⟩⟩; refine ⟨_, rfl, ?_⟩) | (go_at_call 31; (with_reducible refine (spec_l03Word.calls k a0_0 _ _ l2 true _ ?side1 ?side2 A8.out).mono ?_); (case side1 => exact zS (kO HR2.out (zT HB.out GE118.out))); (case side2 => exact HC2.out); rintro e w' ⟨rfl, ⟨nd, rfl⟩⟩))
    go_ret
    exact ⟨zr, zT HB.out GE118.out⟩
   replace c9 := Bool.eq_false_iff.mpr c9
   subst c9
   rw [if_neg (show ¬ (false = true) by decide)] at H
   obtain rfl := Option.some.inj H
   go_enter Tryd.func18, Tryd.ntmps18
   go_wp2_with (first | (refine zBE 3 #[.int .i64 a0_0, .slice A0_1 l0_1.length c0_1] 28 ?_; intro gb118 hg w14 hbox hb; have BK118 := zA (hbox); have GW118 := zA (zBH hg HB.out); have GE118 := zA (zBH hg HB.out); replace HB := zA (kQ (zQ HB.out) hb); clear hb hbox hg; obtain ⟨hcz15_0, hcz15_1, hfz15_0, hfz15_1⟩ := zB3 BK118.out) | (refine zO (some 8) Tryd.func30 #[.agg #[.int .i64 a0_0, .slice A0_1 l0_1.length c0_1]] ?_; (with_reducible refine (spec_l02Is.calls k a0_0 _ _ l0_1 true _ ?side1 ?side2 A4.out).mono ?_); (case side1 => exact zS (kO HR0_1.out HB.out)); (case side2 => exact HC0_1.out); rintro e w16 ⟨rfl, hb⟩; refine ⟨_, rfl, ?_⟩; replace BK118 := zA (zB1 BK118.out hb); replace HB := zA (kQ (zT HB.out GE118.out) hb); (try clear hb); obtain ⟨hcz17_0, hcz17_1, hfz17_0, hfz17_1⟩ := zB3 BK118.out) | (refine zO (some 13) Tryd.func31 #[.int .i64 a0_0, .slice A1 l1.length c1] ?_; (with_reducible refine (spec_l03Word.calls k a0_0 _ _ l1 true _ ?side1 ?side2 A6.out).mono ?_); (case side1 => exact zS (kO HR1.out HB.out)); (case side2 => exact HC1.out); rintro e w' ⟨rfl, ⟨nd, rfl⟩⟩; refine ⟨_, rfl, ?_⟩) | (go_at_call 31; (with_reducible refine (spec_l03Word.calls k a0_0 _ _ l2 false _ ?side1 ?side2 A8.out).mono ?_); (case side1 => exact zS (kO HR2.out (zT HB.out GE118.out))); (case side2 => exact HC2.out); rintro e w' ⟨rfl, ⟨nd, rfl⟩⟩))
   go_ret
   exact ⟨zr, zT HB.out GE118.out⟩
  replace c7 := Bool.eq_false_iff.mpr c7
  subst c7
  rw [if_neg (show ¬ (false = true) by decide)] at H
  obtain rfl := Option.some.inj H
  go_enter Tryd.func18, Tryd.ntmps18
  go_wp2_with (first | (refine zBE 3 #[.int .i64 a0_0, .slice A0_1 l0_1.length c0_1] 28 ?_; intro gb118 hg w18 hbox hb; have BK118 := zA (hbox); have GW118 := zA (zBH hg HB.out); have GE118 := zA (zBH hg HB.out); replace HB := zA (kQ (zQ HB.out) hb); clear hb hbox hg; obtain ⟨hcz19_0, hcz19_1, hfz19_0, hfz19_1⟩ := zB3 BK118.out) | (refine zO (some 8) Tryd.func30 #[.agg #[.int .i64 a0_0, .slice A0_1 l0_1.length c0_1]] ?_; (with_reducible refine (spec_l02Is.calls k a0_0 _ _ l0_1 true _ ?side1 ?side2 A4.out).mono ?_); (case side1 => exact zS (kO HR0_1.out HB.out)); (case side2 => exact HC0_1.out); rintro e w20 ⟨rfl, hb⟩; refine ⟨_, rfl, ?_⟩; replace BK118 := zA (zB1 BK118.out hb); replace HB := zA (kQ (zT HB.out GE118.out) hb); (try clear hb); obtain ⟨hcz21_0, hcz21_1, hfz21_0, hfz21_1⟩ := zB3 BK118.out) | (refine zO (some 13) Tryd.func31 #[.int .i64 a0_0, .slice A1 l1.length c1] ?_; (with_reducible refine (spec_l03Word.calls k a0_0 _ _ l1 false _ ?side1 ?side2 A6.out).mono ?_); (case side1 => exact zS (kO HR1.out HB.out)); (case side2 => exact HC1.out); rintro e w' ⟨rfl, ⟨nd, rfl⟩⟩; refine ⟨_, rfl, ?_⟩))
  go_ret
  exact ⟨zr, zT HB.out GE118.out⟩
 replace c5 := Bool.eq_false_iff.mpr c5
 subst c5
 rw [if_neg (show ¬ (false = true) by decide)] at H
 obtain rfl := Option.some.inj H
 go_enter Tryd.func18, Tryd.ntmps18
 go_wp2_with (first | (refine zBE 3 #[.int .i64 a0_0, .slice A0_1 l0_1.length c0_1] 28 ?_; intro gb118 hg w22 hbox hb; have BK118 := zA (hbox); have GW118 := zA (zBH hg HB.out); have GE118 := zA (zBH hg HB.out); replace HB := zA (kQ (zQ HB.out) hb); clear hb hbox hg; obtain ⟨hcz23_0, hcz23_1, hfz23_0, hfz23_1⟩ := zB3 BK118.out) | (refine zO (some 8) Tryd.func30 #[.agg #[.int .i64 a0_0, .slice A0_1 l0_1.length c0_1]] ?_; (with_reducible refine (spec_l02Is.calls k a0_0 _ _ l0_1 false _ ?side1 ?side2 A4.out).mono ?_); (case side1 => exact zS (kO HR0_1.out HB.out)); (case side2 => exact HC0_1.out); rintro e w24 ⟨rfl, hb⟩; refine ⟨_, rfl, ?_⟩; replace BK118 := zA (zB1 BK118.out hb); replace HB := zA (kQ (zT HB.out GE118.out) hb); (try clear hb)))
 go_ret
 exact ⟨zr, zT HB.out GE118.out⟩

/-! ### spec_l01Same: function 26 -/
def spec_l01Same.l0 : Nat → List Int → List Int → Int → Option (Bool)
 | 0, _, _, _ => none
 | k + 1, x0, x1, x5 => if x5 < (x0.length : Int) then (if 0 ≤ x5 then (if x5 < (x1.length : Int) then (if (rd x0 x5) = (rd x1 x5) then (spec_l01Same.l0 k x0 x1 (wrap64 (x5 + 1))) else (some false)) else (none)) else (none)) else (some true)
def spec_l01Same.f (k : Nat) (l0 : List Int) (l1 : List Int) : Option (Bool) := if (l0.length : Int) = (l1.length : Int) then (spec_l01Same.l0 k l0 l1 0) else (some false)

set_option maxHeartbeats 8000000 in
set_option maxRecDepth 100000 in
theorem spec_l01Same.calls (k : Nat) (A0 : Option Addr) (c0 : Nat) (l0 : List Int) (A1 : Option Addr) (c1 : Nat) (l1 : List Int) (r : Bool) (w : World) (hr0 : Kd.C (Kd.int .i64) w A0 l0.length l0) (hc0 : l0.length ≤ c0) (hr1 : Kd.C (Kd.int .i64) w A1 l1.length l1) (hc1 : l1.length ≤ c1) (h : spec_l01Same.f k l0 l1 = some r) :
  Calls Tryd.prog 26 #[.slice A0 l0.length c0, .slice A1 l1.length c1] w fun e w' => e = .returned (.bool r) ∧ Drawn0 w w' := by
 have HR0 := zA hr0
 have HC0 := zA hc0
 clear hr0 hc0
 have HR1 := zA hr1
 have HC1 := zA hc1
 clear hr1 hc1
 have H := h
 unfold spec_l01Same.f at H
 clear h
 by_cases c3 : (l0.length : Int) = (l1.length : Int)
 ·rw [if_pos c3] at H
  obtain ⟨c3b0, c3b1⟩ := zT1 c3
  have c3b2 : (l0.length == l1.length) = true := by first | simpa using c3 | (simp at c3 ⊢; omega)
  clear c3
  have H' := zA H
  clear H
  go_enter Tryd.func26, Tryd.ntmps26
  go_wp2
  repeat (go_quiet (fail); try go_wp2)
  go_loopg [5] k (fun kq v5 w' => ∃ (x5_1 : Int), v5 = .int .i64 x5_1 ∧ Aside0 (spec_l01Same.l0 kq l0 l1 x5_1 = some r) ∧ Aside0 (kq ≤ k) ∧ Drawn0 w w')
  case atStart => exact ⟨(0), zs, H', ⟨Nat.le_refl _⟩, by repeat (first | exact Drawn0.refl _ | apply Drawn0.step)⟩
  case round =>
   clear H'
   try clear c1
   try clear c2
   try clear c3
   obtain ⟨x5_1, rfl, HA, HK1, ⟨m1, rfl⟩⟩ := hrel
   cases gk with
   | zero => exact absurd HA.out (by simp [spec_l01Same.l0])
   | succ k1 =>
    have H := HA.out
    clear HA
    simp only [spec_l01Same.l0] at H
    by_cases c4 : x5_1 < (l0.length : Int)
    ·rw [if_pos c4] at H
     have c4b0 : decide (x5_1 < (l0.length : Int)) = true := decide_eq_true c4
     clear c4
     by_cases c5 : 0 ≤ x5_1
     ·rw [if_pos c5] at H
      have c5b0 : decide (0 ≤ x5_1) = true := decide_eq_true c5
      clear c5
      by_cases c6 : x5_1 < (l1.length : Int)
      ·rw [if_pos c6] at H
       have c6b0 : decide (x5_1 < (l1.length : Int)) = true := decide_eq_true c6
       clear c6
       by_cases c7 : (rd l0 x5_1) = (rd l1 x5_1)
       ·rw [if_pos c7] at H
        obtain ⟨c7b0, c7b1⟩ := zT1 c7
        clear c7
        have H' := zA H
        clear H
        have p122 : 0 ≤ (x5_1 : Int) := zd
        have q122 : x5_1 < (l0.length : Int) := zd
        obtain ⟨ad122, e122, hx122_0⟩ := Kd.at_int HR0.out x5_1 p122 q122
        cases e122
        replace p122 := eq_true p122
        replace q122 := eq_true q122
        have p123 : 0 ≤ (x5_1 : Int) := zd
        have q123 : x5_1 < (l1.length : Int) := zd
        obtain ⟨ad123, e123, hx123_0⟩ := Kd.at_int HR1.out x5_1 p123 q123
        cases e123
        replace p123 := eq_true p123
        replace q123 := eq_true q123
        go_wp2
        repeat (go_quiet (fail); try go_wp2)
        go_roundg k1
        case measure => have := HK1.out; omega
        case rel => exact ⟨(wrap64 (x5_1 + 1)), zs, H', ⟨by have := HK1.out; omega⟩, by repeat (first | exact Drawn0.refl _ | apply Drawn0.step)⟩
       rw [if_neg c7] at H
       obtain ⟨c7b0, c7b1⟩ := zT2 c7
       obtain rfl := Option.some.inj H
       have p122 : 0 ≤ (x5_1 : Int) := zd
       have q122 : x5_1 < (l0.length : Int) := zd
       obtain ⟨ad122, e122, hx122_0⟩ := Kd.at_int HR0.out x5_1 p122 q122
       cases e122
       replace p122 := eq_true p122
       replace q122 := eq_true q122
       have p123 : 0 ≤ (x5_1 : Int) := zd
       have q123 : x5_1 < (l1.length : Int) := zd
       obtain ⟨ad123, e123, hx123_0⟩ := Kd.at_int HR1.out x5_1 p123 q123
       cases e123
       replace p123 := eq_true p123
       replace q123 := eq_true q123
       go_wp2
       repeat (go_quiet (fail); try go_wp2)
       go_ret
       exact ⟨zs, by repeat (first | exact Drawn0.refl _ | apply Drawn0.step)⟩
      rw [if_neg c6] at H
      exact absurd H (by simp)
     rw [if_neg c5] at H
     exact absurd H (by simp)
    rw [if_neg c4] at H
    have c4b0 : decide (x5_1 < (l0.length : Int)) = false := decide_eq_false c4
    clear c4
    obtain rfl := Option.some.inj H
    go_wp2
    repeat (go_quiet (fail); try go_wp2)
    go_ret
    exact ⟨zs, by repeat (first | exact Drawn0.refl _ | apply Drawn0.step)⟩
 rw [if_neg c3] at H
 obtain ⟨c3b0, c3b1⟩ := zT2 c3
 have c3b2 : (l0.length == l1.length) = false := by first | simpa using c3 | (simp at c3 ⊢; omega)
 obtain rfl := Option.some.inj H
 go_enter Tryd.func26, Tryd.ntmps26
 go_wp2
 repeat (go_quiet (fail); try go_wp2)
 go_ret
 exact ⟨zs, by repeat (first | exact Drawn0.refl _ | apply Drawn0.step)⟩

/-! ### spec_l07Find: function 20 -/
def spec_l07Find.l0 : Nat → List (List Int) → List Int → Int → Option (Int)
 | 0, _, _, _ => none
 | k + 1, x0, x1, x5 => if x5 < (x0.length : Int) then (if 0 ≤ x5 then ((spec_l01Same.f k (rd_L1 x0 x5) x1).bind fun t125 => (if t125 = true then (some x5) else (spec_l07Find.l0 k x0 x1 (wrap64 (x5 + 1))))) else (none)) else (some (-1))
def spec_l07Find.f (k : Nat) (l0 : List (List Int)) (l1 : List Int) : Option (Int) := spec_l07Find.l0 k l0 l1 0

set_option maxHeartbeats 8000000 in
set_option maxRecDepth 100000 in
theorem spec_l07Find.calls (k : Nat) (A0 : Option Addr) (c0 : Nat) (l0 : List (List Int)) (A1 : Option Addr) (c1 : Nat) (l1 : List Int) (r : Int) (w : World) (hr0 : Kd.C (Kd.slice 2 (Kd.int .i64)) w A0 l0.length l0) (hc0 : l0.length ≤ c0) (hr1 : Kd.C (Kd.int .i64) w A1 l1.length l1) (hc1 : l1.length ≤ c1) (h : spec_l07Find.f k l0 l1 = some r) :
  Calls Tryd.prog 20 #[.slice A0 l0.length c0, .slice A1 l1.length c1] w fun e w' => e = .returned (.int .i64 r) ∧ Drawn0 w w' := by
 have HR0 := zA hr0
 have HC0 := zA hc0
 clear hr0 hc0
 have HR1 := zA hr1
 have HC1 := zA hc1
 clear hr1 hc1
 have H := h
 unfold spec_l07Find.f at H
 clear h
 have H' := zA H
 clear H
 go_enter Tryd.func20, Tryd.ntmps20
 go_wp2
 go_loopg [5] k (fun kq v5 w' => ∃ (x5_1 : Int), v5 = .int .i64 x5_1 ∧ Aside0 (spec_l07Find.l0 kq l0 l1 x5_1 = some r) ∧ Aside0 (kq ≤ k) ∧ Drawn0 w w')
 case atStart => exact ⟨(0), zs, H', ⟨Nat.le_refl _⟩, by repeat (first | exact Drawn0.refl _ | apply Drawn0.step)⟩
 case round =>
  clear H'
  try clear c1
  try clear c2
  obtain ⟨x5_1, rfl, HA, HK1, ⟨m1, rfl⟩⟩ := hrel
  cases gk with
  | zero => exact absurd HA.out (by simp [spec_l07Find.l0])
  | succ k1 =>
   have H := HA.out
   clear HA
   simp only [spec_l07Find.l0] at H
   by_cases c3 : x5_1 < (l0.length : Int)
   ·rw [if_pos c3] at H
    have c3b0 : decide (x5_1 < (l0.length : Int)) = true := decide_eq_true c3
    clear c3
    by_cases c4 : 0 ≤ x5_1
    ·rw [if_pos c4] at H
     have c4b0 : decide (0 ≤ x5_1) = true := decide_eq_true c4
     clear c4
     obtain ⟨t125, A5, H⟩ := zb H
     try dsimp only at H
     by_cases c6 : t125 = true
     ·subst c6
      rw [if_pos rfl] at H
      obtain rfl := Option.some.inj H
      have p124 : 0 ≤ (x5_1 : Int) := zd
      have q124 : x5_1 < (l0.length : Int) := zd
      obtain ⟨ad124, A124_0, c124_0, e124, hx124_0, hl124_0, hi124_0⟩ := at_L1 HR0.out x5_1 p124 q124
      cases e124
      have HR124_0 := zA hi124_0
      have HC124_0 := zA hl124_0
      clear hi124_0 hl124_0
      replace p124 := eq_true p124
      replace q124 := eq_true q124
      go_wp2_with (first | (refine zO (some 17) Tryd.func26 #[.slice A124_0 (rd_L1 l0 x5_1).length c124_0, .slice A1 l1.length c1] ?_; (with_reducible refine (spec_l01Same.calls k1 _ _ (rd_L1 l0 x5_1) _ _ l1 true _ ?side1 ?side2 ?side3 ?side4 A5.out).mono ?_); (case side1 => exact zS HR124_0.out); (case side2 => exact HC124_0.out); (case side3 => exact zS HR1.out); (case side4 => exact HC1.out); rintro e w' ⟨rfl, ⟨nd, rfl⟩⟩; refine ⟨_, rfl, ?_⟩))
      go_ret
      exact ⟨zs, by repeat (first | exact Drawn0.refl _ | apply Drawn0.step)⟩
     replace c6 := Bool.eq_false_iff.mpr c6
     subst c6
     rw [if_neg (show ¬ (false = true) by decide)] at H
     have H' := zA H
     clear H
     have p124 : 0 ≤ (x5_1 : Int) := zd
     have q124 : x5_1 < (l0.length : Int) := zd
     obtain ⟨ad124, A124_0, c124_0, e124, hx124_0, hl124_0, hi124_0⟩ := at_L1 HR0.out x5_1 p124 q124
     cases e124
     have HR124_0 := zA hi124_0
     have HC124_0 := zA hl124_0
     clear hi124_0 hl124_0
     replace p124 := eq_true p124
     replace q124 := eq_true q124
     go_wp2_with (first | (refine zO (some 17) Tryd.func26 #[.slice A124_0 (rd_L1 l0 x5_1).length c124_0, .slice A1 l1.length c1] ?_; (with_reducible refine (spec_l01Same.calls k1 _ _ (rd_L1 l0 x5_1) _ _ l1 false _ ?side1 ?side2 ?side3 ?side4 A5.out).mono ?_); (case side1 => exact zS HR124_0.out); (case side2 => exact HC124_0.out); (case side3 => exact zS HR1.out); (case side4 => exact HC1.out); rintro e w' ⟨rfl, ⟨nd, rfl⟩⟩; refine ⟨_, rfl, ?_⟩))
     go_roundg k1
     case measure => have := HK1.out; omega
     case rel => exact ⟨(wrap64 (x5_1 + 1)), zs, H', ⟨by have := HK1.out; omega⟩, by repeat (first | exact Drawn0.refl _ | apply Drawn0.step)⟩
    rw [if_neg c4] at H
    exact absurd H (by simp)
   rw [if_neg c3] at H
   have c3b0 : decide (x5_1 < (l0.length : Int)) = false := decide_eq_false c3
   clear c3
   obtain rfl := Option.some.inj H
   go_wp2
   go_ret
   exact ⟨zs, by repeat (first | exact Drawn0.refl _ | apply Drawn0.step)⟩

/-! ### spec_l01Own: function 28 -/
def spec_l01Own.f (l0 : List Int) : Option (List Int) := (some (([] : List Int) : List Int)).bind fun y126 => (if y126.length + l0.length < 17592186044416 then (some (y126 ++ l0)) else (none))
set_option maxHeartbeats 8000000 in
set_option maxRecDepth 100000 in
theorem spec_l01Own.calls (A0 : Option Addr) (c0 : Nat) (l0 : List Int) (r : List Int) (w : World) (hr0 : Kd.C (Kd.int .i64) w A0 l0.length l0) (hc0 : l0.length ≤ c0) (h : spec_l01Own.f l0 = some r) :
  Calls Tryd.prog 28 #[.slice A0 l0.length c0] w fun e w' => ∃ v0_ : Value, e = .returned (v0_) ∧ Kd.R (Kd.int .i64) 2 w' w.heap.size (fun _ => True) v0_ r ∧ Below w.heap.size w w' := by
 have HR0 := zA hr0
 have HC0 := zA hc0
 clear hr0 hc0
 have HB := zA (kW w.heap.size w)
 have H := h
 unfold spec_l01Own.f at H
 clear h
 obtain ⟨y126, hy126⟩ : ∃ y_ : List Int, y_ = (([] : List Int)) := ⟨_, rfl⟩
 replace H : (if y126.length + l0.length < 17592186044416 then (some (y126 ++ l0)) else (none)) = some r := zy hy126 H
 have Ny126 := zA hy126
 clear hy126
 by_cases c2 : y126.length + l0.length < 17592186044416
 ·rw [if_pos c2] at H
  have LMc2 := zA c2
  clear c2
  obtain ⟨y129, hy129⟩ : ∃ y_ : List Int, y_ = (y126 ++ l0) := ⟨_, rfl⟩
  replace H : (some y129) = some r := zy hy129 H
  have Ny129 := zA hy129
  clear hy129
  obtain rfl := Option.some.inj H
  go_enter Tryd.func28, Tryd.ntmps28
  go_wp2_with (first | ((with_reducible refine kS (N := 3) rfl ?_); refine Kd.R_lit (Kd.int .i64) _ 2 ?hg (N := 3) ?hd (xs := ([] : List Int)) (inner := []) (ok := fun _ => True) (okp := fun _ => True) ?hr ?hp (fun _ hk => hk) trivial (kW _ _) (Nat.le_refl _) (by simp) ?_; (case hd => rfl); (case hg => rfl); (case hr => first | (go_simp; done) | (go_simp; rfl)); (case hp => exact (Reps.none _ _)); intro v127 w3 ho4 hb hg_ hnew_; clear hg_ hnew_; (first | rw [← Ny126.out] at ho4 | (simp only [Int.reduceToNat] at ho4; rw [← Ny126.out] at ho4)); have HO128 := zA (kI ho4 (kP (zQ HB.out))); replace HB := zA (kQ (zQ HB.out) hb); clear hb ho4) | ((with_reducible refine gate_builtin (b := .append) (xs := #[.tmp 3, .tmp 4]) rfl ?_); at_builtin; refine Kd.R_append_rows (Kd.int .i64) (w0 := w) w.heap.size rfl (.tmp 3) (.tmp 4) 22 2 (.int .i64 0) 8 rfl Tryd.underlying22 info2 rfl (by decide) (by omega) v127 y126 l0 _ _ _ (fun _ => True) (fun _ => False) rfl rfl ?aO ?aR (fun _ _ h => h) (fun _ h => h.elim) ?aF ?aB ?aS ?aL ?_; (case aR => exact zS (kO HR0.out HB.out)); (case aB => exact (zQ HB.out)); (case aF => exact (fun _ _ => trivial)); (case aO => exact (zP HO128.out)); (case aS => exact (kP (zQ HB.out))); (case aL => have := LMc2.out; omega); intro v130 w5 ho hb hg hat; rw [← Ny129.out] at ho; replace HB := zA (hb); have HO131 := zA (ho); clear HO128; clear ho hb hg hat))
  go_ret
  exact ⟨_, zr, zP HO131.out, zQ HB.out⟩
 rw [if_neg c2] at H
 exact absurd H (by simp)

/-! ### spec_l02Dep: function 45 -/
def spec_l02Dep.f (a0_0 : Int) (l0_1 : List Int) (a1 : Int) (a2 : Int) : Option (Bool) := if 0 ≤ a1 then (if a1 < (l0_1.length : Int) then ((spec_l01Bit.f (rd l0_1 a1) a2).bind fun t134 => (some t134)) else (none)) else (none)
set_option maxHeartbeats 8000000 in
set_option maxRecDepth 100000 in
theorem spec_l02Dep.calls (a0_0 : Int) (A0_1 : Option Addr) (c0_1 : Nat) (l0_1 : List Int) (a1 : Int) (a2 : Int) (r : Bool) (w : World) (hr0_1 : Kd.C (Kd.int .i64) w A0_1 l0_1.length l0_1) (hc0_1 : l0_1.length ≤ c0_1) (h : spec_l02Dep.f a0_0 l0_1 a1 a2 = some r) :
  Calls Tryd.prog 45 #[.agg #[.int .i64 a0_0, .slice A0_1 l0_1.length c0_1], .int .i64 a1, .int .i64 a2] w fun e w' => e = .returned (.bool r) ∧ Below w.heap.size w w' := by
 have hu28 := Tryd.underlying28
 have HR0_1 := zA hr0_1
 have HC0_1 := zA hc0_1
 clear hr0_1 hc0_1
 have HB := zA (kW w.heap.size w)
 have H := h
 unfold spec_l02Dep.f at H
 clear h
 by_cases c4 : 0 ≤ a1
 ·rw [if_pos c4] at H
  have c4b0 : decide (0 ≤ a1) = true := decide_eq_true c4
  clear c4
  by_cases c5 : a1 < (l0_1.length : Int)
  ·rw [if_pos c5] at H
   have c5b0 : decide (a1 < (l0_1.length : Int)) = true := decide_eq_true c5
   clear c5
   obtain ⟨t134, A6, H⟩ := zb H
   try dsimp only at H
   obtain rfl := Option.some.inj H
   go_enter Tryd.func45, Tryd.ntmps45
   go_wp2_with (first | (refine zBE 3 #[.int .i64 a0_0, .slice A0_1 l0_1.length c0_1] 28 ?_; intro gb132 hg w7 hbox hb; have BK132 := zA (hbox); have GW132 := zA (zBH hg HB.out); have GE132 := zA (zBH hg HB.out); replace HB := zA (kQ (zQ HB.out) hb); clear hb hbox hg; obtain ⟨hcz8_0, hcz8_1, hfz8_0, hfz8_1⟩ := zB3 BK132.out; have p133 : 0 ≤ (a1 : Int) := zd; have q133 : a1 < (l0_1.length : Int) := zd; obtain ⟨ad133, e133, hx133_0⟩ := Kd.at_int HR0_1.out a1 p133 q133; cases e133; replace hx133_0 := (HB.out.cell (jG w _ hx133_0)).trans hx133_0; replace p133 := eq_true p133; replace q133 := eq_true q133) | (refine zO (some 13) Tryd.func44 #[.int .i64 (rd l0_1 a1), .int .i64 a2] ?_; (with_reducible refine (spec_l01Bit.calls (rd l0_1 a1) a2 t134 _ A6.out).mono ?_); rintro e w' ⟨rfl, ⟨nd, rfl⟩⟩; refine ⟨_, rfl, ?_⟩))
   go_ret
   exact ⟨zr, zT HB.out GE132.out⟩
  rw [if_neg c5] at H
  exact absurd H (by simp)
 rw [if_neg c4] at H
 exact absurd H (by simp)

/-! ### spec_l03First: function 32 -/
def spec_l03First.l0 : Nat → List Int → Int → Int → Int → List Int → Option (Int)
 | 0, _, _, _, _, _ => none
 | k + 1, x1, x2, x7, x136000, x136001 => if x7 < (x1.length : Int) then (if 0 ≤ x7 then (if (rd x1 x7) = x2 then (some x7) else ((spec_l02Dep.f x136000 x136001 (rd x1 x7) x2).bind fun t138 => (if t138 = true then (some (-1)) else (spec_l03First.l0 k x1 x2 (wrap64 (x7 + 1)) x136000 x136001)))) else (none)) else (some (-1))
def spec_l03First.f (k : Nat) (a0_0 : Int) (l0_1 : List Int) (l1 : List Int) (a2 : Int) : Option (Int) := spec_l03First.l0 k l1 a2 0 a0_0 l0_1

set_option maxHeartbeats 8000000 in
set_option maxRecDepth 100000 in
theorem spec_l03First.calls (k : Nat) (a0_0 : Int) (A0_1 : Option Addr) (c0_1 : Nat) (l0_1 : List Int) (A1 : Option Addr) (c1 : Nat) (l1 : List Int) (a2 : Int) (r : Int) (w : World) (hr0_1 : Kd.C (Kd.int .i64) w A0_1 l0_1.length l0_1) (hc0_1 : l0_1.length ≤ c0_1) (hr1 : Kd.C (Kd.int .i64) w A1 l1.length l1) (hc1 : l1.length ≤ c1) (h : spec_l03First.f k a0_0 l0_1 l1 a2 = some r) :
  Calls Tryd.prog 32 #[.agg #[.int .i64 a0_0, .slice A0_1 l0_1.length c0_1], .slice A1 l1.length c1, .int .i64 a2] w fun e w' => e = .returned (.int .i64 r) ∧ Below w.heap.size w w' := by
 have hu28 := Tryd.underlying28
 have HR0_1 := zA hr0_1
 have HC0_1 := zA hc0_1
 clear hr0_1 hc0_1
 have HR1 := zA hr1
 have HC1 := zA hc1
 clear hr1 hc1
 have HB := zA (kW w.heap.size w)
 have H := h
 unfold spec_l03First.f at H
 clear h
 have H' := zA H
 clear H
 go_enter Tryd.func32, Tryd.ntmps32
 go_wp2_with (first | (refine zBE 3 #[.int .i64 a0_0, .slice A0_1 l0_1.length c0_1] 28 ?_; intro gb135 hg w4 hbox hb; have BK135 := zA (hbox); have GW135 := zA (zBH hg HB.out); have GE135 := zA (zBH hg HB.out); replace HB := zA (kQ (zQ HB.out) hb); clear hb hbox hg))
 go_loopg [7] k (fun kq v7 w' => ∃ (x7_1 : Int), v7 = .int .i64 x7_1 ∧ Aside0 (spec_l03First.l0 kq l1 a2 x7_1 a0_0 l0_1 = some r) ∧ Aside0 (kq ≤ k) ∧ Aside0 (w'.heap[gb135]? = some (.cells #[.int .i64 a0_0, (.slice A0_1 l0_1.length c0_1)] 28 (0, 0))) ∧ Aside0 (Below w.heap.size w w'))
 case atStart => exact ⟨(0), zs, H', ⟨Nat.le_refl _⟩, ⟨zR BK135.out⟩, ⟨zT HB.out GE135.out⟩⟩
 case round =>
  clear H'
  try clear c1
  try clear c3
  obtain ⟨x7_1, rfl, HA, HK1, BK135, HB⟩ := hrel
  cases gk with
  | zero => exact absurd HA.out (by simp [spec_l03First.l0])
  | succ k1 =>
   have H := HA.out
   clear HA
   simp only [spec_l03First.l0] at H
   by_cases c5 : x7_1 < (l1.length : Int)
   ·rw [if_pos c5] at H
    have c5b0 : decide (x7_1 < (l1.length : Int)) = true := decide_eq_true c5
    clear c5
    by_cases c6 : 0 ≤ x7_1
    ·rw [if_pos c6] at H
     have c6b0 : decide (0 ≤ x7_1) = true := decide_eq_true c6
     clear c6
     by_cases c7 : (rd l1 x7_1) = a2
     ·rw [if_pos c7] at H
      obtain ⟨c7b0, c7b1⟩ := zT1 c7
      clear c7
      obtain rfl := Option.some.inj H
      have p136 : 0 ≤ (x7_1 : Int) := zd
      have q136 : x7_1 < (l1.length : Int) := zd
      obtain ⟨ad136, e136, hx136_0⟩ := Kd.at_int HR1.out x7_1 p136 q136
      cases e136
      replace hx136_0 := (HB.out.cell (jG w _ hx136_0)).trans hx136_0
      replace p136 := eq_true p136
      replace q136 := eq_true q136
      go_wp2
      go_ret
      exact ⟨zr, zT HB.out GE135.out⟩
     rw [if_neg c7] at H
     obtain ⟨c7b0, c7b1⟩ := zT2 c7
     obtain ⟨t138, A8, H⟩ := zb H
     try dsimp only at H
     by_cases c9 : t138 = true
     ·subst c9
      rw [if_pos rfl] at H
      obtain rfl := Option.some.inj H
      have p136 : 0 ≤ (x7_1 : Int) := zd
      have q136 : x7_1 < (l1.length : Int) := zd
      obtain ⟨ad136, e136, hx136_0⟩ := Kd.at_int HR1.out x7_1 p136 q136
      cases e136
      replace hx136_0 := (HB.out.cell (jG w _ hx136_0)).trans hx136_0
      replace p136 := eq_true p136
      replace q136 := eq_true q136
      try go_wp2
      replace BK135 := zA (zK BK135.out)
      replace HB := zA (zD HB.out)
      have p137 : 0 ≤ (x7_1 : Int) := zd
      have q137 : x7_1 < (l1.length : Int) := zd
      obtain ⟨ad137, e137, hx137_0⟩ := Kd.at_int HR1.out x7_1 p137 q137
      have hw137_0 := hx137_0
      obtain rfl : ad136 = ad137 := (by injection e137)
      replace hx137_0 := (HB.out.cell (jG w _ hx137_0)).trans hx137_0
      replace p137 := eq_true p137
      replace q137 := eq_true q137
      refine start_ (n := 7) (S := fun w' => w'.cell? ⟨gb135, 0, none⟩ = some (.int .i64 a0_0) ∧ w'.cell? ⟨gb135, 1, none⟩ = some (.slice A0_1 l0_1.length c0_1) ∧ w'.cell? (ad136.add (x7_1).toNat) = some (.int .i64 (rd l1 x7_1))) (ds := []) #[false, false, false, false, false, false, false] (by kernel_rfl) rfl rfl ⟨(kV BK135.out 0).trans rfl, (kV BK135.out 1).trans rfl, (pw_cell_below HB.out hw137_0)⟩ (fun hHeld => ?_)
      generalize wr.drew = w10 at BK135 HB hx137_0 hHeld ⊢
      refine pure_ (i := 1) (N := some 22) (v := ?_) (a' := ?_) #[false, true, false, false, false, false, false] rfl rfl (by kernel_rfl) (fun _ _ _ h => h) (Or.inl ⟨by rfl, ?_⟩) ?_ ?_
      rotate_left
      ·intro w'
       go_simp
       with_reducible rfl
      rotate_left
      ·simp only [Act.put, zL, zM, zN, i64_w, i32_w]
       rfl
      refine pure_ (i := 2) (N := some 23) (v := ?_) (a' := ?_) #[false, true, true, false, false, false, false] rfl rfl (by kernel_rfl) (fun _ _ _ h => h) (Or.inl ⟨by rfl, ?_⟩) ?_ ?_
      rotate_left
      ·intro w'
       go_simp
       with_reducible rfl
      rotate_left
      ·simp only [Act.put, zL, zM, zN, i64_w, i32_w]
       rfl
      refine pure_ (i := 3) (N := some 24) (v := ?_) (a' := ?_) #[false, true, true, true, false, false, false] rfl rfl (by kernel_rfl) (fun _ _ _ h => h) (Or.inl ⟨by rfl, ?_⟩) ?_ ?_
      rotate_left
      ·intro w'
       go_simp
       with_reducible rfl
      rotate_left
      ·simp only [Act.put, zL, zM, zN, i64_w, i32_w]
       rfl
      refine pure_ (i := 5) (N := some 26) (v := ?_) (a' := ?_) #[false, true, true, true, false, true, false] rfl rfl (by kernel_rfl) (fun _ _ _ h => h) (Or.inl ⟨by rfl, ?_⟩) ?_ ?_
      rotate_left
      ·intro w'
       go_simp
       with_reducible rfl
      rotate_left
      ·simp only [Act.put, zL, zM, zN, i64_w, i32_w]
       rfl
      refine take_ (i := 0) (N := some 21) (v := ?_) (a' := ?_) #[true, true, true, true, false, true, false] rfl rfl (by kernel_rfl) (fun _ _ _ h => h) (Or.inl ⟨by rfl, ?_⟩) hHeld ?_ ?_
      rotate_left
      ·rintro w' ⟨s0, s1, s2⟩
       go_simp
       with_reducible rfl
      rotate_left
      ·simp only [Act.put, zL, zM, zN, i64_w, i32_w]
       rfl
      refine take_ (i := 4) (N := some 25) (v := ?_) (a' := ?_) #[true, true, true, true, true, true, false] rfl rfl (by kernel_rfl) (fun _ _ _ h => h) (Or.inl ⟨by rfl, ?_⟩) hHeld ?_ ?_
      rotate_left
      ·rintro w' ⟨s0, s1, s2⟩
       go_simp
       with_reducible rfl
      rotate_left
      ·simp only [Act.put, zL, zM, zN, i64_w, i32_w]
       rfl
      refine one_ (i := 6) (N := some 27) #[true, true, true, true, true, true, true] rfl rfl (by kernel_rfl) (by decide) (fun K hK => ?_)
      refine goes_ Tryd.func45 (by kernel_rfl) rfl #[.agg #[.int .i64 a0_0, .slice A0_1 l0_1.length c0_1], .int .i64 (rd l1 x7_1), .int .i64 a2] (by rfl) rfl rfl zg ?_
      with_reducible refine (spec_l02Dep.calls a0_0 _ _ l0_1 (rd l1 x7_1) a2 true _ ?side1 ?side2 A8.out).mono ?_
      (case side1 => exact zS (kO HR0_1.out HB.out))
      (case side2 => exact HC0_1.out)
      rintro e w11 ⟨rfl, hb⟩
      refine ⟨_, rfl, ?_⟩
      replace BK135 := zA (zB1 BK135.out hb)
      replace HB := zA (kQ (zT HB.out GE135.out) hb)
      (try clear hb)
      (try clear hb2)
      (try clear hk)
      (try clear hi)
      (try clear hgw)
      refine hK.out _ _ ⟨(kV BK135.out 0).trans rfl, (kV BK135.out 1).trans rfl, (pw_cell_below HB.out hw137_0)⟩ (fun hHeld => ?_)
      clear hK K
      refine norm_ (a' := ?_) ?_ ?_
      rotate_left
      ·show Act.put _ (some 27) _ = _
       simp only [Act.put, zL, zM, zN, i64_w, i32_w]
       rfl
      refine done_ (by kernel_rfl) ?_
      try go_wp2
      go_ret
      exact ⟨zr, zT HB.out GE135.out⟩
     replace c9 := Bool.eq_false_iff.mpr c9
     subst c9
     rw [if_neg (show ¬ (false = true) by decide)] at H
     have H' := zA H
     clear H
     have p136 : 0 ≤ (x7_1 : Int) := zd
     have q136 : x7_1 < (l1.length : Int) := zd
     obtain ⟨ad136, e136, hx136_0⟩ := Kd.at_int HR1.out x7_1 p136 q136
     cases e136
     replace hx136_0 := (HB.out.cell (jG w _ hx136_0)).trans hx136_0
     replace p136 := eq_true p136
     replace q136 := eq_true q136
     try go_wp2
     replace BK135 := zA (zK BK135.out)
     replace HB := zA (zD HB.out)
     have p137 : 0 ≤ (x7_1 : Int) := zd
     have q137 : x7_1 < (l1.length : Int) := zd
     obtain ⟨ad137, e137, hx137_0⟩ := Kd.at_int HR1.out x7_1 p137 q137
     have hw137_0 := hx137_0
     obtain rfl : ad136 = ad137 := (by injection e137)
     replace hx137_0 := (HB.out.cell (jG w _ hx137_0)).trans hx137_0
     replace p137 := eq_true p137
     replace q137 := eq_true q137
     refine start_ (n := 7) (S := fun w' => w'.cell? ⟨gb135, 0, none⟩ = some (.int .i64 a0_0) ∧ w'.cell? ⟨gb135, 1, none⟩ = some (.slice A0_1 l0_1.length c0_1) ∧ w'.cell? (ad136.add (x7_1).toNat) = some (.int .i64 (rd l1 x7_1))) (ds := []) #[false, false, false, false, false, false, false] (by kernel_rfl) rfl rfl ⟨(kV BK135.out 0).trans rfl, (kV BK135.out 1).trans rfl, (pw_cell_below HB.out hw137_0)⟩ (fun hHeld => ?_)
     generalize wr.drew = w12 at BK135 HB hx137_0 hHeld ⊢
     refine pure_ (i := 1) (N := some 22) (v := ?_) (a' := ?_) #[false, true, false, false, false, false, false] rfl rfl (by kernel_rfl) (fun _ _ _ h => h) (Or.inl ⟨by rfl, ?_⟩) ?_ ?_
     rotate_left
     ·intro w'
      go_simp
      with_reducible rfl
     rotate_left
     ·simp only [Act.put, zL, zM, zN, i64_w, i32_w]
      rfl
     refine pure_ (i := 2) (N := some 23) (v := ?_) (a' := ?_) #[false, true, true, false, false, false, false] rfl rfl (by kernel_rfl) (fun _ _ _ h => h) (Or.inl ⟨by rfl, ?_⟩) ?_ ?_
     rotate_left
     ·intro w'
      go_simp
      with_reducible rfl
     rotate_left
     ·simp only [Act.put, zL, zM, zN, i64_w, i32_w]
      rfl
     refine pure_ (i := 3) (N := some 24) (v := ?_) (a' := ?_) #[false, true, true, true, false, false, false] rfl rfl (by kernel_rfl) (fun _ _ _ h => h) (Or.inl ⟨by rfl, ?_⟩) ?_ ?_
     rotate_left
     ·intro w'
      go_simp
      with_reducible rfl
     rotate_left
     ·simp only [Act.put, zL, zM, zN, i64_w, i32_w]
      rfl
     refine pure_ (i := 5) (N := some 26) (v := ?_) (a' := ?_) #[false, true, true, true, false, true, false] rfl rfl (by kernel_rfl) (fun _ _ _ h => h) (Or.inl ⟨by rfl, ?_⟩) ?_ ?_
     rotate_left
     ·intro w'
      go_simp
      with_reducible rfl
     rotate_left
     ·simp only [Act.put, zL, zM, zN, i64_w, i32_w]
      rfl
     refine take_ (i := 0) (N := some 21) (v := ?_) (a' := ?_) #[true, true, true, true, false, true, false] rfl rfl (by kernel_rfl) (fun _ _ _ h => h) (Or.inl ⟨by rfl, ?_⟩) hHeld ?_ ?_
     rotate_left
     ·rintro w' ⟨s0, s1, s2⟩
      go_simp
      with_reducible rfl
     rotate_left
     ·simp only [Act.put, zL, zM, zN, i64_w, i32_w]
      rfl
     refine take_ (i := 4) (N := some 25) (v := ?_) (a' := ?_) #[true, true, true, true, true, true, false] rfl rfl (by kernel_rfl) (fun _ _ _ h => h) (Or.inl ⟨by rfl, ?_⟩) hHeld ?_ ?_
     rotate_left
     ·rintro w' ⟨s0, s1, s2⟩
      go_simp
      with_reducible rfl
     rotate_left
     ·simp only [Act.put, zL, zM, zN, i64_w, i32_w]
      rfl
     refine one_ (i := 6) (N := some 27) #[true, true, true, true, true, true, true] rfl rfl (by kernel_rfl) (by decide) (fun K hK => ?_)
     refine goes_ Tryd.func45 (by kernel_rfl) rfl #[.agg #[.int .i64 a0_0, .slice A0_1 l0_1.length c0_1], .int .i64 (rd l1 x7_1), .int .i64 a2] (by rfl) rfl rfl zg ?_
     with_reducible refine (spec_l02Dep.calls a0_0 _ _ l0_1 (rd l1 x7_1) a2 false _ ?side1 ?side2 A8.out).mono ?_
     (case side1 => exact zS (kO HR0_1.out HB.out))
     (case side2 => exact HC0_1.out)
     rintro e w13 ⟨rfl, hb⟩
     refine ⟨_, rfl, ?_⟩
     replace BK135 := zA (zB1 BK135.out hb)
     replace HB := zA (kQ (zT HB.out GE135.out) hb)
     (try clear hb)
     (try clear hb2)
     (try clear hk)
     (try clear hi)
     (try clear hgw)
     refine hK.out _ _ ⟨(kV BK135.out 0).trans rfl, (kV BK135.out 1).trans rfl, (pw_cell_below HB.out hw137_0)⟩ (fun hHeld => ?_)
     clear hK K
     refine norm_ (a' := ?_) ?_ ?_
     rotate_left
     ·show Act.put _ (some 27) _ = _
      simp only [Act.put, zL, zM, zN, i64_w, i32_w]
      rfl
     refine done_ (by kernel_rfl) ?_
     try go_wp2
     go_roundg k1
     case measure => have := HK1.out; omega
     case rel => exact ⟨(wrap64 (x7_1 + 1)), zs, H', ⟨by have := HK1.out; omega⟩, ⟨zR BK135.out⟩, ⟨zT HB.out GE135.out⟩⟩
    rw [if_neg c6] at H
    exact absurd H (by simp)
   rw [if_neg c5] at H
   have c5b0 : decide (x7_1 < (l1.length : Int)) = false := decide_eq_false c5
   clear c5
   obtain rfl := Option.some.inj H
   go_wp2
   go_ret
   exact ⟨zr, zT HB.out GE135.out⟩

/-! ### spec_l03Without: function 33 -/
def spec_l03Without.f (l0 : List Int) (a1 : Int) : Option (List Int) := if 0 ≤ a1 then (if a1 ≤ (l0.length : Int) then ((spec_l01Own.f (l0.take (a1 : Int).toNat)).bind fun t140 => (if 0 ≤ (wrap64 (a1 + 1)) then (if (wrap64 (a1 + 1)) ≤ (l0.length : Int) then (if t140.length + (l0.drop ((wrap64 (a1 + 1)) : Int).toNat).length < 17592186044416 then (some (t140 ++ (l0.drop ((wrap64 (a1 + 1)) : Int).toNat))) else (none)) else (none)) else (none))) else (none)) else (none)
def spec_l03Without.T1 : Bool × List (List Nat × List Nat) := (true, [([], []), ([], []), ([0, 1], [0, 1]), ([2], [2]), ([], []), ([], []), ([5], [5]), ([4, 6], [4, 6]), ([3, 7, 3], [3, 7]), ([8, 8, 0, 1, 2, 3, 4, 5, 6, 7, 8], [8])])
def spec_l03Without.B1 : List Nat := [0, 0, 3, 7, 0, 0, 32, 112, 255, 511]
theorem spec_l03Without.tab1 : rtab .any (opsOf Tryd.f33 1) = spec_l03Without.T1 := by kernel_rfl
theorem spec_l03Without.bits1 : waitsOk spec_l03Without.T1.2 spec_l03Without.B1 = true := by kernel_rfl
set_option maxHeartbeats 8000000 in
set_option maxRecDepth 100000 in
theorem spec_l03Without.calls (A0 : Option Addr) (c0 : Nat) (l0 : List Int) (a1 : Int) (r : List Int) (w : World) (hr0 : Kd.C (Kd.int .i64) w A0 l0.length l0) (hc0 : l0.length ≤ c0) (h : spec_l03Without.f l0 a1 = some r) :
  Calls Tryd.prog 33 #[.slice A0 l0.length c0, .int .i64 a1] w fun e w' => ∃ v0_ : Value, e = .returned (v0_) ∧ Kd.R (Kd.int .i64) 2 w' w.heap.size (fun _ => True) v0_ r ∧ Below w.heap.size w w' := by
 have HR0 := zA hr0
 have HC0 := zA hc0
 clear hr0 hc0
 have HB := zA (kW w.heap.size w)
 have H := h
 unfold spec_l03Without.f at H
 clear h
 by_cases c3 : 0 ≤ a1
 ·rw [if_pos c3] at H
  have c3b0 := eq_true c3
  have c3b1 : decide (0 ≤ a1) = true := decide_eq_true c3
  clear c3
  by_cases c4 : a1 ≤ (l0.length : Int)
  ·rw [if_pos c4] at H
   have c4b0 := eq_true c4
   have c4b1 : decide (a1 ≤ (l0.length : Int)) = true := decide_eq_true c4
   clear c4
   obtain ⟨t140, A5, H⟩ := zb H
   try dsimp only at H
   obtain ⟨ji6, hji6⟩ : ∃ j_ : Int, (wrap64 (a1 + 1)) = j_ := ⟨_, rfl⟩
   replace H : (if 0 ≤ (ji6) then (if (ji6) ≤ (l0.length : Int) then (if t140.length + (l0.drop ((ji6) : Int).toNat).length < 17592186044416 then (some (t140 ++ (l0.drop ((ji6) : Int).toNat))) else (none)) else (none)) else (none)) = some r := by first | (rw [hji6] at H; exact H) | (simp only [hji6] at H ⊢; exact H)
   (try rw [hji6] at A5)
   have hji6w : (IntKind.i64.wrap (a1 + 1)) = ji6 := (i64_w _).trans hji6
   by_cases c7 : 0 ≤ (ji6)
   ·rw [if_pos c7] at H
    have c7b0 := eq_true c7
    have c7b1 : decide (0 ≤ (ji6)) = true := decide_eq_true c7
    clear c7
    by_cases c8 : (ji6) ≤ (l0.length : Int)
    ·rw [if_pos c8] at H
     have c8b0 := eq_true c8
     have c8b1 : decide ((ji6) ≤ (l0.length : Int)) = true := decide_eq_true c8
     clear c8
     by_cases c9 : t140.length + (l0.drop ((ji6) : Int).toNat).length < 17592186044416
     ·rw [if_pos c9] at H
      have LMc9 := zA c9
      clear c9
      obtain ⟨y144, hy144⟩ : ∃ y_ : List Int, y_ = (t140 ++ (l0.drop ((ji6) : Int).toNat)) := ⟨_, rfl⟩
      replace H : (some y144) = some r := zy hy144 H
      have Ny144 := zA hy144
      clear hy144
      obtain rfl := Option.some.inj H
      go_enter Tryd.func33, Tryd.ntmps33
      try go_wp2
      replace HB := zA (zD HB.out)
      obtain ⟨i011, hi011, _, hsz11, _⟩ := info_parts info2
      obtain ⟨hcut11, hA11, hC11⟩ := print_take_of (P := Tryd.prog) (Value.int .i64) 0 22 2 .i64 Tryd.underlying22 hi011 hsz11 A0 c0 l0 a1 (zd) (zd) HC0.out
      have HR139 := zA (Kd.C_of_reads (h1 := fun _ => rfl) (hA11 _ (Kd.reads_of_C HR0.out)))
      have HC139 := zA hC11
      clear hA11 hC11 hi011 hsz11
      obtain ⟨i012, hi012, _, hsz12, _⟩ := info_parts info2
      obtain ⟨A12, hcut12, hA12, hC12⟩ := print_drop_of (P := Tryd.prog) (Value.int .i64) 0 22 2 .i64 Tryd.underlying22 hi012 hsz12 A0 c0 l0 (ji6) (zd) (zd) HC0.out
      have HR143 := zA (Kd.C_of_reads (h1 := fun _ => rfl) (hA12 _ (Kd.reads_of_C HR0.out)))
      have HC143 := zA hC12
      clear hA12 hC12 hi012 hsz12
      refine start_ (n := 10) (S := fun w' => True) (ds := []) #[false, false, false, false, false, false, false, false, false, false] (by kernel_rfl) rfl rfl trivial (fun hHeld => ?_); refine with_tabW spec_l03Without.tab1 spec_l03Without.bits1 (fun HT_ HW_ => ?_)
      generalize w.drew = w10 at HB HR139 HR143 hHeld ⊢
      refine zp 0 (some 5) #[true, false, false, false, false, false, false, false, false, false] HT_.out ?_
      refine zp 1 (some 6) #[true, true, false, false, false, false, false, false, false, false] HT_.out ?_
      refine zp 2 (some 7) #[true, true, true, false, false, false, false, false, false, false] HT_.out ?_
      refine zp 4 (some 9) #[true, true, true, false, true, false, false, false, false, false] HT_.out ?_
      refine zp 5 (some 10) #[true, true, true, false, true, true, false, false, false, false] HT_.out ?_
      refine zp 6 (some 11) #[true, true, true, false, true, true, true, false, false, false] HT_.out ?_
      refine zp 7 (some 12) #[true, true, true, false, true, true, true, true, false, false] HT_.out ?_
      refine one_ (i := 3) (N := some 8) #[true, true, true, true, true, true, true, true, false, false] rfl rfl (one_of HT_.out (by kernel_rfl)) (by decide) (fun K hK => ?_)
      refine goes_ Tryd.func28 (by kernel_rfl) rfl #[.slice A0 (l0.take (a1 : Int).toNat).length c0] (by rfl) rfl rfl (by (try simp only [List.map_toArray, List.map_cons, List.map_nil]); first | done | (rw [show (l0.take (a1 : Int).toNat).length = a1.toNat from (by rw [List.length_take]; have h_ : (a1 : Int) ≤ (l0.length : Int) := zd; omega)] <;> rfl) | rfl | (simp only [List.length_drop, List.length_take]; rfl)) ?_
      with_reducible refine (spec_l01Own.calls _ _ (l0.take (a1 : Int).toNat) t140 _ ?side1 ?side2 A5.out).mono ?_
      (case side1 => exact zS (kO HR139.out HB.out))
      (case side2 => exact HC139.out)
      rintro e w13 ⟨v141, rfl, ho0, hb⟩
      refine ⟨_, rfl, ?_⟩
      have HO142 := zA (kI ho0 (kP (zQ HB.out)))
      replace HB := zA (kQ (zQ HB.out) hb)
      (try clear hb)
      (try clear hb2)
      (try clear hk)
      (try clear hi)
      (try clear hgw)
      (try clear ho0)
      refine hK.out _ _ trivial (fun hHeld => ?_)
      clear hK K
      refine norm_ (a' := ?_) ?_ ?_
      rotate_left
      ·show Act.put _ (some 8) _ = _
       simp only [Act.put, zL, zM, zN, i64_w, i32_w]
       rfl
      refine one_ (i := 8) (N := some 13) #[true, true, true, true, true, true, true, true, true, false] rfl rfl (one_of HT_.out (by kernel_rfl)) (by decide) (fun K hK => ?_)
      refine Kd.R_append_rows_step (Kd.int .i64) (w0 := w) w.heap.size (by rfl) (.tmp 8) (.tmp 12) 22 2 (.int .i64 0) 8 rfl Tryd.underlying22 info2 rfl (by decide) (by omega) v141 t140 (l0.drop ((ji6) : Int).toNat) _ _ _ (fun _ => True) (fun _ => False) rfl rfl ?aO ?aR (fun _ _ h => h) (fun _ h => h.elim) ?aF ?aB ?aS ?aL ?_
      (case aR => first | (rw [← show (l0.drop ((ji6) : Int).toNat).length = (l0.length - (ji6).toNat) from List.length_drop]; repeat (first | exact (kO HR143.out HB.out) | (with_reducible refine Kd.C_alloc ?_ _) | (with_reducible refine Kd.C_drewN ?_ _) | (with_reducible refine Kd.C_drew ?_))) | (repeat (first | exact (kO HR143.out HB.out) | (with_reducible refine Kd.C_alloc ?_ _) | (with_reducible refine Kd.C_drewN ?_ _) | (with_reducible refine Kd.C_drew ?_))))
      (case aB => exact (zQ HB.out))
      (case aF => exact (fun _ _ => trivial))
      (case aO => exact (zP HO142.out))
      (case aS => exact (kP (zQ HB.out)))
      (case aL => have := LMc9.out; have hlx_ := (show (l0.drop ((ji6) : Int).toNat).length = (l0.length - (ji6).toNat) from List.length_drop); omega)
      intro v145 w14 ho hb hg hat
      rw [← Ny144.out] at ho
      replace HB := zA (hb)
      have HO146 := zA (ho)
      clear HO142 ho hb hg hat
      refine hK.out _ _ trivial (fun hHeld => ?_)
      clear hK K
      refine norm_ (a' := ?_) ?_ ?_
      rotate_left
      ·show Act.put _ (some 13) _ = _
       simp only [Act.put, zL, zM, zN, i64_w, i32_w]
       rfl
      refine zp 9 (some 4) #[true, true, true, true, true, true, true, true, true, true] HT_.out ?_
      refine done_ (done_of HT_.out (by kernel_rfl)) ?_
      try go_wp2
      go_ret
      exact ⟨_, by first | rfl | (simp [errW_none, errW_some] <;> rfl) | (simp only [← hji6]; first | rfl | (simp [errW_none, errW_some] <;> rfl)) | (simp [*, errW_none, errW_some] <;> rfl), zP HO146.out, zQ HB.out⟩
     rw [if_neg c9] at H
     exact absurd H (by simp)
    rw [if_neg c8] at H
    exact absurd H (by simp)
   rw [if_neg c7] at H
   exact absurd H (by simp)
  rw [if_neg c4] at H
  exact absurd H (by simp)
 rw [if_neg c3] at H
 exact absurd H (by simp)

/-! ### spec_l03Normal: function 21 -/
mutual
def spec_l03Normal.l0 : Nat → List Int → List Int → Int → List Int → Option (List Int)
 | 0, _, _, _, _ => none
 | k + 1, x5, x6, x148000, x148001 => if (x6.length : Int) > 0 then (spec_l03Normal.l1 k x5 x6 0 x148000 x148001) else (some x5)
def spec_l03Normal.l1 : Nat → List Int → List Int → Int → Int → List Int → Option (List Int)
 | 0, _, _, _, _, _ => none
 | k + 1, x5, x6, x7, x148000, x148001 => if x7 < x148000 then ((spec_l03First.f k x148000 x148001 x6 x7).bind fun t154 => (if t154 ≥ 0 then (if x5.length < 17592186044416 then ((spec_l03Without.f x6 t154).bind fun t158 => (spec_l03Normal.l0 k (x5 ++ [x7]) t158 x148000 x148001)) else (none)) else (spec_l03Normal.l1 k x5 x6 (wrap64 (x7 + 1)) x148000 x148001))) else (spec_l03Normal.l0 k x5 x6 x148000 x148001)
end
def spec_l03Normal.f (k : Nat) (a0_0 : Int) (l0_1 : List Int) (l1 : List Int) : Option (List Int) := (spec_l01Own.f l1).bind fun t151 => (spec_l03Normal.l0 k (([] : List Int)) t151 a0_0 l0_1)

set_option maxHeartbeats 8000000 in
set_option maxRecDepth 100000 in
theorem spec_l03Normal.calls (k : Nat) (a0_0 : Int) (A0_1 : Option Addr) (c0_1 : Nat) (l0_1 : List Int) (A1 : Option Addr) (c1 : Nat) (l1 : List Int) (r : List Int) (w : World) (hr0_1 : Kd.C (Kd.int .i64) w A0_1 l0_1.length l0_1) (hc0_1 : l0_1.length ≤ c0_1) (hr1 : Kd.C (Kd.int .i64) w A1 l1.length l1) (hc1 : l1.length ≤ c1) (h : spec_l03Normal.f k a0_0 l0_1 l1 = some r) :
  Calls Tryd.prog 21 #[.agg #[.int .i64 a0_0, .slice A0_1 l0_1.length c0_1], .slice A1 l1.length c1] w fun e w' => ∃ v0_ : Value, e = .returned (v0_) ∧ Kd.R (Kd.int .i64) 2 w' w.heap.size (fun _ => True) v0_ r ∧ Below w.heap.size w w' := by
 have hu28 := Tryd.underlying28
 have HR0_1 := zA hr0_1
 have HC0_1 := zA hc0_1
 clear hr0_1 hc0_1
 have HR1 := zA hr1
 have HC1 := zA hc1
 clear hr1 hc1
 have HB := zA (kW w.heap.size w)
 have H := h
 unfold spec_l03Normal.f at H
 clear h
 obtain ⟨y148, hy148⟩ : ∃ y_ : List Int, y_ = (([] : List Int)) := ⟨_, rfl⟩
 replace H : ((spec_l01Own.f l1).bind fun t151 => (spec_l03Normal.l0 k y148 t151 a0_0 l0_1)) = some r := zy hy148 H
 have Ny148 := zA hy148
 clear hy148
 obtain ⟨t151, A3, H⟩ := zb H
 try dsimp only at H
 have H' := zA H
 clear H
 go_enter Tryd.func21, Tryd.ntmps21
 go_wp2_with (first | (refine zBE 2 #[.int .i64 a0_0, .slice A0_1 l0_1.length c0_1] 28 ?_; intro gb147 hg w4 hbox hb; have BK147 := zA (hbox); have GW147 := zA (zBH hg HB.out); have GE147 := zA (zBH hg HB.out); replace HB := zA (kQ (zQ HB.out) hb); clear hb hbox hg) | ((with_reducible refine kS (N := 9) rfl ?_); refine Kd.R_lit (Kd.int .i64) _ 2 ?hg (N := 9) ?hd (xs := ([] : List Int)) (inner := []) (ok := fun _ => True) (okp := fun _ => True) ?hr ?hp (fun _ hk => hk) trivial (kW _ _) (Nat.le_refl _) (by simp) ?_; (case hd => rfl); (case hg => rfl); (case hr => first | (go_simp; done) | (go_simp; rfl)); (case hp => exact (Reps.none _ _)); intro v149 w5 ho6 hb hg_ hnew_; clear hg_ hnew_; (first | rw [← Ny148.out] at ho6 | (simp only [Int.reduceToNat] at ho6; rw [← Ny148.out] at ho6)); have HO150 := zA (kI ho6 (kP (zT HB.out GE147.out))); replace BK147 := zA (zB1 BK147.out hb); replace HB := zA (kQ (zT HB.out GE147.out) hb); clear hb ho6) | (refine zO (some 11) Tryd.func28 #[.slice A1 l1.length c1] ?_; (with_reducible refine (spec_l01Own.calls _ _ l1 t151 _ ?side1 ?side2 A3.out).mono ?_); (case side1 => exact zS (kO HR1.out HB.out)); (case side2 => exact HC1.out); rintro e w7 ⟨v152, rfl, ho0, hb⟩; refine ⟨_, rfl, ?_⟩; have HO153 := zA (kI (kF ho0 (kH (zP HO150.out))) (kP (zT HB.out GE147.out))); replace HO150 := zA (kE (zP HO150.out) (kC ho0) hb); replace BK147 := zA (zB1 BK147.out hb); replace HB := zA (kQ (zT HB.out GE147.out) hb); (try clear hb); (try clear ho0)))
 go_loopg [5, 6] k (fun kq v5 v6 w' => ∃ (x5_1 : List Int) (x6_1 : List Int), Aside0 (spec_l03Normal.l0 kq x5_1 x6_1 a0_0 l0_1 = some r) ∧ Aside0 (kq ≤ k) ∧ Aside0 (Kd.R (Kd.int .i64) 2 w' w.heap.size (fun k_ => some k_ ≠ (v6 : Value).ownBlock) v5 x5_1) ∧ Aside0 (Kd.R (Kd.int .i64) 2 w' w.heap.size (fun k_ => some k_ ≠ (v5 : Value).ownBlock) v6 x6_1) ∧ Aside0 (w'.heap[gb147]? = some (.cells #[.int .i64 a0_0, (.slice A0_1 l0_1.length c0_1)] 28 (0, 0))) ∧ Aside0 (Below w.heap.size w w'))
 case atStart => exact ⟨(y148), (t151), H', ⟨Nat.le_refl _⟩, ⟨zPM HO150.out (fun _ hk => hk.2)⟩, ⟨zPM HO153.out (fun _ hk => hk.2)⟩, ⟨zR BK147.out⟩, ⟨zT HB.out GE147.out⟩⟩
 case round =>
  clear H'
  try clear c1
  try clear c2
  obtain ⟨x5_1, x6_1, HA, HK1, HO_5, HO_6, BK147, HB⟩ := hrel
  cases gk with
  | zero => exact absurd HA.out (by simp [spec_l03Normal.l0])
  | succ k1 =>
   have H := HA.out
   clear HA
   simp only [spec_l03Normal.l0] at H
   by_cases c8 : (x6_1.length : Int) > 0
   ·rw [if_pos c8] at H
    have c8b0 : decide (0 < (x6_1.length : Int)) = true := decide_eq_true c8
    have c8b1 : decide (0 < x6_1.length) = true := decide_eq_true (by omega)
    clear c8
    have H' := zA H
    clear H
    obtain ⟨Ao9, co9, eo9⟩ := kM HO_6.out
    subst eo9
    go_wp2
    go_loopg [5, 6, 7] k1 (fun kq v5 v6 v7 w' => ∃ (x5_2 : List Int) (x6_2 : List Int) (x7_2 : Int), v7 = .int .i64 x7_2 ∧ Aside0 (spec_l03Normal.l1 kq x5_2 x6_2 x7_2 a0_0 l0_1 = some r) ∧ Aside0 (kq ≤ k1) ∧ Aside0 (Kd.R (Kd.int .i64) 2 w' w.heap.size (fun k_ => some k_ ≠ (v6 : Value).ownBlock) v5 x5_2) ∧ Aside0 (Kd.R (Kd.int .i64) 2 w' w.heap.size (fun k_ => some k_ ≠ (v5 : Value).ownBlock) v6 x6_2) ∧ Aside0 (w'.heap[gb147]? = some (.cells #[.int .i64 a0_0, (.slice A0_1 l0_1.length c0_1)] 28 (0, 0))) ∧ Aside0 (Below w.heap.size w w'))
    case atStart => exact ⟨(x5_1), (x6_1), (0), zs, H', ⟨Nat.le_refl _⟩, ⟨zP HO_5.out⟩, ⟨zP HO_6.out⟩, ⟨zR BK147.out⟩, ⟨zT HB.out GE147.out⟩⟩
    case round =>
     clear H'
     try clear c1
     try clear c2
     try clear c8
     obtain ⟨x5_2, x6_2, x7_2, rfl, HA, HK2, HO_5, HO_6, BK147, HB⟩ := hrel
     cases gk with
     | zero => exact absurd HA.out (by simp [spec_l03Normal.l1])
     | succ k2 =>
      have H := HA.out
      clear HA
      simp only [spec_l03Normal.l1] at H
      by_cases c10 : x7_2 < a0_0
      ·rw [if_pos c10] at H
       have c10b0 : decide (x7_2 < a0_0) = true := decide_eq_true c10
       clear c10
       obtain ⟨t154, A11, H⟩ := zb H
       try dsimp only at H
       by_cases c12 : t154 ≥ 0
       ·rw [if_pos c12] at H
        have c12b0 : decide (0 ≤ t154) = true := decide_eq_true c12
        clear c12
        by_cases c13 : x5_2.length < 17592186044416
        ·rw [if_pos c13] at H
         have LMc13 := zA c13
         clear c13
         obtain ⟨y155, hy155⟩ : ∃ y_ : List Int, y_ = (x5_2 ++ [x7_2]) := ⟨_, rfl⟩
         replace H : ((spec_l03Without.f x6_2 t154).bind fun t158 => (spec_l03Normal.l0 k2 y155 t158 a0_0 l0_1)) = some r := zy hy155 H
         have Ny155 := zA hy155
         clear hy155
         obtain ⟨t158, A14, H⟩ := zb H
         try dsimp only at H
         have H' := zA H
         clear H
         obtain ⟨hcz15_0, hcz15_1, hfz15_0, hfz15_1⟩ := zB3 BK147.out
         obtain ⟨Ao16, co16, eo16⟩ := kM HO_6.out
         subst eo16
         go_wp2_with (first | (refine zO (some 24) Tryd.func32 #[.agg #[.int .i64 a0_0, .slice A0_1 l0_1.length c0_1], .slice Ao16 x6_2.length co16, .int .i64 x7_2] ?_; (with_reducible refine (spec_l03First.calls k2 a0_0 _ _ l0_1 _ _ x6_2 x7_2 t154 _ ?side1 ?side2 ?side3 ?side4 A11.out).mono ?_); (case side1 => exact zS (kO HR0_1.out HB.out)); (case side2 => exact HC0_1.out); (case side3 => exact zS (kB HO_6.out).2.2); (case side4 => exact (kB HO_6.out).2.1); rintro e w17 ⟨rfl, hb⟩; refine ⟨_, rfl, ?_⟩; replace HO_5 := zA (kL (zP HO_5.out) hb); replace HO_6 := zA (kL (zP HO_6.out) hb); replace BK147 := zA (zB1 BK147.out hb); replace HB := zA (kQ (zT HB.out GE147.out) hb); (try clear hb)) | ((with_reducible refine gate_builtin (b := .append) (xs := #[.tmp 27, .tmp 29]) rfl ?_); at_builtin; refine Kd.R_append (Kd.int .i64) (w0 := w) w.heap.size rfl (.tmp 27) (.tmp 29) 22 2 (.int .i64 0) 8 rfl Tryd.underlying22 info2 rfl (by decide) (by omega) u5 x5_2 x7_2 [.int .i64 x7_2] (fun k_ => some k_ ≠ (.slice Ao16 x6_2.length co16 : Value).ownBlock) (fun _ => False) rfl rfl ?aP (fun _ hk => hk.elim) ?aF ?aO ?aB ?aS ?aL ?_; (case aP => exact rfl); (case aB => exact (zT HB.out GE147.out)); (case aF => exact (fun k_ hk => jF (kH (zP HO_6.out)) k_ hk)); (case aO => exact (zP HO_5.out)); (case aS => exact (kP (zT HB.out GE147.out))); (case aL => have := LMc13.out; omega); intro v156 w18 ho hb hg hat; rw [← Ny155.out] at ho; replace HO_6 := zA (Kd.R_after (ok := (fun _ => True)) (by (with_reducible repeat (first | apply zF | apply zG | apply zH)); exact kA HO_6.out (fun _ hk => ⟨trivial, hk⟩)) hg hat); replace BK147 := zA (blk_grown (g := gb147) (o := .cells #[.int .i64 a0_0, .slice A0_1 l0_1.length c0_1] 28 (0, 0)) (zR BK147.out) hg (Kd.R_ne HO_5.out BK147.out (by decide))); replace HB := zA (hb); have HO157 := zA (ho); clear HO_5; clear ho hb hg hat) | (refine zO (some 33) Tryd.func33 #[.slice Ao16 x6_2.length co16, .int .i64 t154] ?_; (with_reducible refine (spec_l03Without.calls _ _ x6_2 t154 t158 _ ?side1 ?side2 A14.out).mono ?_); (case side1 => exact zS (kB HO_6.out).2.2); (case side2 => exact (kB HO_6.out).2.1); rintro e w19 ⟨v159, rfl, ho0, hb⟩; refine ⟨_, rfl, ?_⟩; have HO160 := zA (kI (kF (kF ho0 (kH (zP HO_6.out))) (kH (zP HO157.out))) (kP (zT HB.out GE147.out))); replace HO_6 := zA (kE (zP HO_6.out) (kC ho0) hb); replace HO157 := zA (kE (zP HO157.out) (kC ho0) hb); replace BK147 := zA (zB1 BK147.out hb); replace HB := zA (kQ (zT HB.out GE147.out) hb); (try clear hb); (try clear ho0)))
         go_roundg k2
         case measure => have := HK1.out; have := HK2.out; omega
         case rel => exact ⟨(y155), (t158), H', ⟨by have := HK1.out; have := HK2.out; omega⟩, ⟨zPM HO157.out (fun _ hk => hk.2)⟩, ⟨zPM HO160.out (fun _ hk => hk.2)⟩, ⟨zR BK147.out⟩, ⟨zT HB.out GE147.out⟩⟩
        rw [if_neg c13] at H
        exact absurd H (by simp)
       rw [if_neg c12] at H
       have c12b0 : decide (0 ≤ t154) = false := decide_eq_false c12
       clear c12
       have H' := zA H
       clear H
       obtain ⟨hcz20_0, hcz20_1, hfz20_0, hfz20_1⟩ := zB3 BK147.out
       obtain ⟨Ao21, co21, eo21⟩ := kM HO_6.out
       subst eo21
       go_wp2_with (first | (refine zO (some 24) Tryd.func32 #[.agg #[.int .i64 a0_0, .slice A0_1 l0_1.length c0_1], .slice Ao21 x6_2.length co21, .int .i64 x7_2] ?_; (with_reducible refine (spec_l03First.calls k2 a0_0 _ _ l0_1 _ _ x6_2 x7_2 t154 _ ?side1 ?side2 ?side3 ?side4 A11.out).mono ?_); (case side1 => exact zS (kO HR0_1.out HB.out)); (case side2 => exact HC0_1.out); (case side3 => exact zS (kB HO_6.out).2.2); (case side4 => exact (kB HO_6.out).2.1); rintro e w22 ⟨rfl, hb⟩; refine ⟨_, rfl, ?_⟩; replace HO_5 := zA (kL (zP HO_5.out) hb); replace HO_6 := zA (kL (zP HO_6.out) hb); replace BK147 := zA (zB1 BK147.out hb); replace HB := zA (kQ (zT HB.out GE147.out) hb); (try clear hb)))
       go_roundg k2
       case measure => have := HK1.out; have := HK2.out; omega
       case rel => exact ⟨(x5_2), (x6_2), (wrap64 (x7_2 + 1)), zs, H', ⟨by have := HK1.out; have := HK2.out; omega⟩, ⟨zP HO_5.out⟩, ⟨zP HO_6.out⟩, ⟨zR BK147.out⟩, ⟨zT HB.out GE147.out⟩⟩
      rw [if_neg c10] at H
      have c10b0 : decide (x7_2 < a0_0) = false := decide_eq_false c10
      clear c10
      have H' := zA H
      clear H
      obtain ⟨hcz23_0, hcz23_1, hfz23_0, hfz23_1⟩ := zB3 BK147.out
      go_wp2
      go_roundg k2
      case measure => have := HK1.out; have := HK2.out; omega
      case rel => exact ⟨(x5_2), (x6_2), H', ⟨by have := HK1.out; have := HK2.out; omega⟩, ⟨zP HO_5.out⟩, ⟨zP HO_6.out⟩, ⟨zR BK147.out⟩, ⟨zT HB.out GE147.out⟩⟩
   rw [if_neg c8] at H
   have c8b0 : decide (0 < (x6_1.length : Int)) = false := decide_eq_false c8
   have c8b1 : decide (0 < x6_1.length) = false := decide_eq_false (by omega)
   clear c8
   obtain rfl := Option.some.inj H
   obtain ⟨Ao24, co24, eo24⟩ := kM HO_6.out
   subst eo24
   go_wp2
   go_ret
   exact ⟨_, zr, by (with_reducible repeat (first | apply zF | apply zG | apply zH)); exact kA HO_5.out (fun _ hk => trivial), zT HB.out GE147.out⟩

/-! ### spec_l07Rotate: function 27 -/
def spec_l07Rotate.f (k : Nat) (a0_0 : Int) (l0_1 : List Int) (l1 : List Int) (a2 : Int) : Option (List Int × Bool) := (spec_l03First.f k a0_0 l0_1 l1 a2).bind fun t162 => (if t162 < 0 then (some (([] : List Int), false)) else ((spec_l03Without.f l1 t162).bind fun t163 => ((some (([a2] : List Int) : List Int)).bind fun y166 => (if t163.length + y166.length < 17592186044416 then ((spec_l03Normal.f k a0_0 l0_1 (t163 ++ y166)).bind fun t172 => (some (t172, true))) else (none)))))

def spec_l07Rotate.T4 : Bool × List (List Nat × List Nat) := (true, [([], []), ([], []), ([], []), ([1, 2], [1, 2]), ([], []), ([4], [4]), ([3, 5, 3], [3, 5]), ([0, 6, 6], [0, 6]), ([7, 7, 0, 1, 2, 3, 4, 5, 6, 7], [7]), ([8, 0, 1, 2, 3, 4, 5, 6, 7, 8], [])])
def spec_l07Rotate.B4 : List Nat := [0, 0, 0, 6, 0, 16, 62, 127, 255, 511]
theorem spec_l07Rotate.tab4 : rtab .any (opsOf Tryd.f27 4) = spec_l07Rotate.T4 := by kernel_rfl
theorem spec_l07Rotate.bits4 : waitsOk spec_l07Rotate.T4.2 spec_l07Rotate.B4 = true := by kernel_rfl
set_option maxHeartbeats 8000000 in
set_option maxRecDepth 100000 in
theorem spec_l07Rotate.calls (k : Nat) (a0_0 : Int) (A0_1 : Option Addr) (c0_1 : Nat) (l0_1 : List Int) (A1 : Option Addr) (c1 : Nat) (l1 : List Int) (a2 : Int) (r1 : List Int) (r2 : Bool) (w : World) (hr0_1 : Kd.C (Kd.int .i64) w A0_1 l0_1.length l0_1) (hc0_1 : l0_1.length ≤ c0_1) (hr1 : Kd.C (Kd.int .i64) w A1 l1.length l1) (hc1 : l1.length ≤ c1) (h : spec_l07Rotate.f k a0_0 l0_1 l1 a2 = some (r1, r2)) :
  Calls Tryd.prog 27 #[.agg #[.int .i64 a0_0, .slice A0_1 l0_1.length c0_1], .slice A1 l1.length c1, .int .i64 a2] w fun e w' => ∃ v0_ : Value, e = .returned (.tuple #[v0_, .bool r2]) ∧ Kd.R (Kd.int .i64) 2 w' w.heap.size (fun _ => True) v0_ r1 ∧ Below w.heap.size w w' := by
 have hu28 := Tryd.underlying28
 have HR0_1 := zA hr0_1
 have HC0_1 := zA hc0_1
 clear hr0_1 hc0_1
 have HR1 := zA hr1
 have HC1 := zA hc1
 clear hr1 hc1
 have HB := zA (kW w.heap.size w)
 have H := h
 unfold spec_l07Rotate.f at H
 clear h
 obtain ⟨t162, A4, H⟩ := zb H
 try dsimp only at H
 by_cases c5 : t162 < 0
 ·rw [if_pos c5] at H
  have c5b0 : decide (t162 < 0) = true := decide_eq_true c5
  clear c5
  simp only [Option.some.injEq, Prod.mk.injEq] at H
  obtain ⟨rfl, rfl⟩ := H
  go_enter Tryd.func27, Tryd.ntmps27
  go_wp2_with (first | (refine zBE 3 #[.int .i64 a0_0, .slice A0_1 l0_1.length c0_1] 28 ?_; intro gb161 hg w6 hbox hb; have BK161 := zA (hbox); have GW161 := zA (zBH hg HB.out); have GE161 := zA (zBH hg HB.out); replace HB := zA (kQ (zQ HB.out) hb); clear hb hbox hg; obtain ⟨hcz7_0, hcz7_1, hfz7_0, hfz7_1⟩ := zB3 BK161.out) | (refine zO (some 12) Tryd.func32 #[.agg #[.int .i64 a0_0, .slice A0_1 l0_1.length c0_1], .slice A1 l1.length c1, .int .i64 a2] ?_; (with_reducible refine (spec_l03First.calls k a0_0 _ _ l0_1 _ _ l1 a2 t162 _ ?side1 ?side2 ?side3 ?side4 A4.out).mono ?_); (case side1 => exact zS (kO HR0_1.out HB.out)); (case side2 => exact HC0_1.out); (case side3 => exact zS (kO HR1.out HB.out)); (case side4 => exact HC1.out); rintro e w8 ⟨rfl, hb⟩; refine ⟨_, rfl, ?_⟩; replace BK161 := zA (zB1 BK161.out hb); replace HB := zA (kQ (zT HB.out GE161.out) hb); (try clear hb)))
  go_ret2
  exact ⟨_, zr, zn, zT HB.out GE161.out⟩
 rw [if_neg c5] at H
 have c5b0 : decide (t162 < 0) = false := decide_eq_false c5
 clear c5
 obtain ⟨t163, A9, H⟩ := zb H
 try dsimp only at H
 obtain ⟨y166, hy166⟩ : ∃ y_ : List Int, y_ = (([a2] : List Int)) := ⟨_, rfl⟩
 replace H : (if t163.length + y166.length < 17592186044416 then ((spec_l03Normal.f k a0_0 l0_1 (t163 ++ y166)).bind fun t172 => (some (t172, true))) else (none)) = some (r1, r2) := zy hy166 H
 have Ny166 := zA hy166
 clear hy166
 by_cases c10 : t163.length + y166.length < 17592186044416
 ·rw [if_pos c10] at H
  have LMc10 := zA c10
  clear c10
  obtain ⟨y169, hy169⟩ : ∃ y_ : List Int, y_ = (t163 ++ y166) := ⟨_, rfl⟩
  replace H : ((spec_l03Normal.f k a0_0 l0_1 y169).bind fun t172 => (some (t172, true))) = some (r1, r2) := zy hy169 H
  have Ny169 := zA hy169
  clear hy169
  obtain ⟨t172, A11, H⟩ := zb H
  try dsimp only at H
  simp only [Option.some.injEq, Prod.mk.injEq] at H
  obtain ⟨rfl, rfl⟩ := H
  go_enter Tryd.func27, Tryd.ntmps27
  try go_wp2_with (first | (refine zBE 3 #[.int .i64 a0_0, .slice A0_1 l0_1.length c0_1] 28 ?_; intro gb161 hg w12 hbox hb; have BK161 := zA (hbox); have GW161 := zA (zBH hg HB.out); have GE161 := zA (zBH hg HB.out); replace HB := zA (kQ (zQ HB.out) hb); clear hb hbox hg; obtain ⟨hcz13_0, hcz13_1, hfz13_0, hfz13_1⟩ := zB3 BK161.out) | (refine zO (some 12) Tryd.func32 #[.agg #[.int .i64 a0_0, .slice A0_1 l0_1.length c0_1], .slice A1 l1.length c1, .int .i64 a2] ?_; (with_reducible refine (spec_l03First.calls k a0_0 _ _ l0_1 _ _ l1 a2 t162 _ ?side1 ?side2 ?side3 ?side4 A4.out).mono ?_); (case side1 => exact zS (kO HR0_1.out HB.out)); (case side2 => exact HC0_1.out); (case side3 => exact zS (kO HR1.out HB.out)); (case side4 => exact HC1.out); rintro e w14 ⟨rfl, hb⟩; refine ⟨_, rfl, ?_⟩; replace BK161 := zA (zB1 BK161.out hb); replace HB := zA (kQ (zT HB.out GE161.out) hb); (try clear hb)))
  replace BK161 := zA (zK BK161.out)
  replace HB := zA (zD HB.out)
  refine start_ (n := 10) (S := fun w' => w'.cell? ⟨gb161, 0, none⟩ = some (.int .i64 a0_0) ∧ w'.cell? ⟨gb161, 1, none⟩ = some (.slice A0_1 l0_1.length c0_1)) (ds := []) #[false, false, false, false, false, false, false, false, false, false] (by kernel_rfl) rfl rfl ⟨(kV BK161.out 0).trans rfl, (kV BK161.out 1).trans rfl⟩ (fun hHeld => ?_); refine with_tabW spec_l07Rotate.tab4 spec_l07Rotate.bits4 (fun HT_ HW_ => ?_)
  generalize w14.drew = w15 at BK161 HB hHeld ⊢
  refine zp 1 (some 16) #[false, true, false, false, false, false, false, false, false, false] HT_.out ?_
  refine zp 2 (some 17) #[false, true, true, false, false, false, false, false, false, false] HT_.out ?_
  refine zp 4 (some 19) #[false, true, true, false, true, false, false, false, false, false] HT_.out ?_
  refine zc 0 (some 15) #[true, true, true, false, true, false, false, false, false, false] HT_.out HW_.out hHeld ?_
  refine join_ (σ := Value × Value) 4 #[true, true, true, true, true, true, false, false, false, false] (fun s_ => [(18, s_.1), (20, s_.2)]) (fun s_ w' => (w'.cell? ⟨gb161, 0, none⟩ = some (.int .i64 a0_0) ∧ w'.cell? ⟨gb161, 1, none⟩ = some (.slice A0_1 l0_1.length c0_1)) ∧ (Kd.R (Kd.int .i64) 2 w' w.heap.size (fun k_ => some k_ ≠ (s_.2 : Value).ownBlock) s_.1 t163) ∧ (Kd.R (Kd.int .i64) 2 w' w.heap.size (fun k_ => some k_ ≠ (s_.1 : Value).ownBlock) s_.2 y166) ∧ (w'.heap[gb161]? = some (.cells #[.int .i64 a0_0, .slice A0_1 l0_1.length c0_1] 28 (0, 0))) ∧ (Below w.heap.size w w')) ?_ ?_
  rotate_left
  ·intro hCont
   refine two_ (i := 3) (j := 5) (Ni := some 18) (Nj := some 20) #[true, true, true, true, true, false, false, false, false, false] #[true, true, true, false, true, true, false, false, false, false] rfl rfl rfl rfl (two_of HT_.out (by kernel_rfl)) (by decide) (by decide) (fun K hK => ?_) (fun K hK => ?_)
   ·skip
    refine goes_ Tryd.func33 (by kernel_rfl) rfl #[.slice A1 l1.length c1, .int .i64 t162] (by rfl) rfl rfl zg ?_
    with_reducible refine (spec_l03Without.calls _ _ l1 t162 t163 _ ?side1 ?side2 A9.out).mono ?_
    (case side1 => exact zS (kO HR1.out HB.out))
    (case side2 => exact HC1.out)
    rintro e w16 ⟨v164, rfl, ho0, hb⟩
    refine ⟨_, rfl, ?_⟩
    have HO165 := zA (kI ho0 (kP (zT HB.out GE161.out)))
    replace BK161 := zA (zB1 BK161.out hb)
    replace HB := zA (kQ (zT HB.out GE161.out) hb)
    (try clear hb)
    (try clear hb2)
    (try clear hk)
    (try clear hi)
    (try clear hgw)
    (try clear ho0)
    refine hK.out _ _ ⟨(kV BK161.out 0).trans rfl, (kV BK161.out 1).trans rfl⟩ (fun hHeld => ?_)
    clear hK K
    refine norm_ (a' := ?_) ?_ ?_
    rotate_left
    ·show Act.put _ (some 18) _ = _
     simp only [Act.put, zL, zM, zN, i64_w, i32_w]
     rfl
    refine one_ (i := 5) (N := some 20) #[true, true, true, true, true, true, false, false, false, false] rfl rfl (one_of HT_.out (by kernel_rfl)) (by decide) (fun K hK => ?_)
    refine Kd.R_lit_step (Kd.int .i64) _ 2 ?hg (N := 20) ?hd (xs := ([a2] : List Int)) (inner := [.int .i64 a2]) (ok := fun _ => True) (okp := fun _ => True) ?hr ?hp (fun _ hk => hk) trivial (kW _ _) (Nat.le_refl _) (by simp) ?_; (case hd => rfl); (case hg => rfl); (case hr => first | (go_simp; done) | (go_simp; rfl)); (case hp => exact (Reps.one (show Kd.M (Kd.int .i64) _ _ _ a2 [.int .i64 a2] from rfl) (Reps.none _ _)))
    intro v167 w17 ho18 hb hg_ hnew_
    clear hg_ hnew_
    (first | rw [← Ny166.out] at ho18 | (simp only [Int.reduceToNat] at ho18; rw [← Ny166.out] at ho18))
    have HO168 := zA (kI (kF ho18 (kH (zP HO165.out))) (kP (zT HB.out GE161.out)))
    replace HO165 := zA (kE (zP HO165.out) (kC ho18) hb)
    replace BK161 := zA (zB1 BK161.out hb)
    replace HB := zA (kQ (zT HB.out GE161.out) hb)
    clear hb ho18
    refine hK.out _ _ ⟨(kV BK161.out 0).trans rfl, (kV BK161.out 1).trans rfl⟩ (fun hHeld => ?_)
    clear hK K
    refine norm_ (a' := ?_) ?_ ?_
    rotate_left
    ·show Act.put _ (some 20) _ = _
     simp only [Act.put, zL, zM, zN, i64_w, i32_w]
     rfl
    exact norm_ (by simp only [putAll, Act.put, zL, zM, zN]) (hCont (v164, v167) _ ⟨hHeld, (by (with_reducible repeat (first | apply zF | apply zG | apply zH)); exact kA HO165.out (fun _ hk => hk.2)), (by (with_reducible repeat (first | apply zF | apply zG | apply zH)); exact kA HO168.out (fun _ hk => hk.2)), (zR BK161.out), (zT HB.out GE161.out)⟩)
   skip
   refine Kd.R_lit_step (Kd.int .i64) _ 2 ?hg (N := 20) ?hd (xs := ([a2] : List Int)) (inner := [.int .i64 a2]) (ok := fun _ => True) (okp := fun _ => True) ?hr ?hp (fun _ hk => hk) trivial (kW _ _) (Nat.le_refl _) (by simp) ?_; (case hd => rfl); (case hg => rfl); (case hr => first | (go_simp; done) | (go_simp; rfl)); (case hp => exact (Reps.one (show Kd.M (Kd.int .i64) _ _ _ a2 [.int .i64 a2] from rfl) (Reps.none _ _)))
   intro v167 w16 ho17 hb hg_ hnew_
   clear hg_ hnew_
   (first | rw [← Ny166.out] at ho17 | (simp only [Int.reduceToNat] at ho17; rw [← Ny166.out] at ho17))
   have HO168 := zA (kI ho17 (kP (zT HB.out GE161.out)))
   replace BK161 := zA (zB1 BK161.out hb)
   replace HB := zA (kQ (zT HB.out GE161.out) hb)
   clear hb ho17
   refine hK.out _ _ ⟨(kV BK161.out 0).trans rfl, (kV BK161.out 1).trans rfl⟩ (fun hHeld => ?_)
   clear hK K
   refine norm_ (a' := ?_) ?_ ?_
   rotate_left
   ·show Act.put _ (some 20) _ = _
    simp only [Act.put, zL, zM, zN, i64_w, i32_w]
    rfl
   refine one_ (i := 3) (N := some 18) #[true, true, true, true, true, true, false, false, false, false] rfl rfl (one_of HT_.out (by kernel_rfl)) (by decide) (fun K hK => ?_)
   refine goes_ Tryd.func33 (by kernel_rfl) rfl #[.slice A1 l1.length c1, .int .i64 t162] (by rfl) rfl rfl zg ?_
   with_reducible refine (spec_l03Without.calls _ _ l1 t162 t163 _ ?side1 ?side2 A9.out).mono ?_
   (case side1 => exact zS (kO HR1.out HB.out))
   (case side2 => exact HC1.out)
   rintro e w18 ⟨v164, rfl, ho0, hb⟩
   refine ⟨_, rfl, ?_⟩
   have HO165 := zA (kI (kF ho0 (kH (zP HO168.out))) (kP (zT HB.out GE161.out)))
   replace HO168 := zA (kE (zP HO168.out) (kC ho0) hb)
   replace BK161 := zA (zB1 BK161.out hb)
   replace HB := zA (kQ (zT HB.out GE161.out) hb)
   (try clear hb)
   (try clear hb2)
   (try clear hk)
   (try clear hi)
   (try clear hgw)
   (try clear ho0)
   refine hK.out _ _ ⟨(kV BK161.out 0).trans rfl, (kV BK161.out 1).trans rfl⟩ (fun hHeld => ?_)
   clear hK K
   refine norm_ (a' := ?_) ?_ ?_
   rotate_left
   ·show Act.put _ (some 18) _ = _
    simp only [Act.put, zL, zM, zN, i64_w, i32_w]
    rfl
   exact norm_ (by simp only [putAll, Act.put, zL, zM, zN]) (hCont (v164, v167) _ ⟨hHeld, (by (with_reducible repeat (first | apply zF | apply zG | apply zH)); exact kA HO165.out (fun _ hk => hk.2)), (by (with_reducible repeat (first | apply zF | apply zG | apply zH)); exact kA HO168.out (fun _ hk => hk.2)), (zR BK161.out), (zT HB.out GE161.out)⟩)
  rintro ⟨v164, v167⟩ w19 ⟨hS_, h0_, h1_, h2_, h3_⟩
  have n0_ : Aside0 (Kd.R (Kd.int .i64) 2 w19 w.heap.size (fun k_ => some k_ ≠ (v167 : Value).ownBlock) v164 t163) := ⟨h0_⟩
  have n1_ : Aside0 (Kd.R (Kd.int .i64) 2 w19 w.heap.size (fun k_ => some k_ ≠ (v164 : Value).ownBlock) v167 y166) := ⟨h1_⟩
  have n2_ : Aside0 (w19.heap[gb161]? = some (.cells #[.int .i64 a0_0, .slice A0_1 l0_1.length c0_1] 28 (0, 0))) := ⟨h2_⟩
  have n3_ : Aside0 (Below w.heap.size w w19) := ⟨h3_⟩
  clear BK161 HB h0_ h1_ h2_ h3_
  have HO165 := n0_
  have HO168 := n1_
  have BK161 := n2_
  have HB := n3_
  clear n0_ n1_ n2_ n3_
  have hHeld : w19.cell? ⟨gb161, 0, none⟩ = some (.int .i64 a0_0) ∧ w19.cell? ⟨gb161, 1, none⟩ = some (.slice A0_1 l0_1.length c0_1) := hS_
  obtain ⟨Ao21, co21, eo21⟩ := kM HO168.out
  (first | subst eo21 | (injection eo21 with f1_ f2_ f3_; have f4_ := f1_.symm; have f5_ := f3_.symm; clear f1_ f2_ f3_; subst f4_; subst f5_))
  refine norm_ (a' := ?_) ?_ ?_
  rotate_left
  ·simp only [putAll, Act.put, zL, zM, zN]
   rfl
  refine one_ (i := 6) (N := some 21) #[true, true, true, true, true, true, true, false, false, false] rfl rfl (one_of HT_.out (by kernel_rfl)) (by decide) (fun K hK => ?_)
  refine Kd.R_append_rows_step (Kd.int .i64) (w0 := w) w.heap.size (by rfl) (.tmp 18) (.tmp 20) 22 2 (.int .i64 0) 8 rfl Tryd.underlying22 info2 rfl (by decide) (by omega) v164 t163 y166 _ _ _ (fun k_ => some k_ ≠ (.slice Ao21 y166.length co21 : Value).ownBlock) (fun _ => False) rfl rfl ?aO ?aR (fun _ _ h => h) (fun _ h => h.elim) ?aF ?aB ?aS ?aL ?_
  (case aR => exact zS (kB HO168.out).2.2)
  (case aB => exact (zT HB.out GE161.out))
  (case aF => exact (fun k_ hk => jF (kH (zP HO168.out)) k_ hk))
  (case aO => exact (zP HO165.out))
  (case aS => exact (kP (zT HB.out GE161.out)))
  (case aL => have := LMc10.out; omega)
  intro v170 w20 ho hb hg hat
  rw [← Ny169.out] at ho
  replace BK161 := zA (blk_grown (g := gb161) (o := .cells #[.int .i64 a0_0, .slice A0_1 l0_1.length c0_1] 28 (0, 0)) (zR BK161.out) hg (Kd.R_ne HO165.out BK161.out (by decide)))
  replace HO168 := zA (Kd.R_after (ok := (fun _ => True)) (by (with_reducible repeat (first | apply zF | apply zG | apply zH)); exact kA HO168.out (fun _ hk => ⟨trivial, hk⟩)) hg hat)
  replace HB := zA (hb)
  have HO171 := zA (ho)
  clear HO165 ho hb hg hat
  obtain ⟨Ao22, co22, eo22⟩ := kM HO171.out
  (first | subst eo22 | (injection eo22 with f1_ f2_ f3_; have f4_ := f1_.symm; have f5_ := f3_.symm; clear f1_ f2_ f3_; subst f4_; subst f5_))
  refine hK.out _ _ ⟨(kV BK161.out 0).trans rfl, (kV BK161.out 1).trans rfl⟩ (fun hHeld => ?_)
  clear hK K
  refine norm_ (a' := ?_) ?_ ?_
  rotate_left
  ·show Act.put _ (some 21) _ = _
   simp only [Act.put, zL, zM, zN, i64_w, i32_w]
   rfl
  refine one_ (i := 7) (N := some 22) #[true, true, true, true, true, true, true, true, false, false] rfl rfl (one_of HT_.out (by kernel_rfl)) (by decide) (fun K hK => ?_)
  refine goes_ Tryd.func21 (by kernel_rfl) rfl #[.agg #[.int .i64 a0_0, .slice A0_1 l0_1.length c0_1], .slice Ao22 y169.length co22] (by rfl) rfl rfl zg ?_
  with_reducible refine (spec_l03Normal.calls k a0_0 _ _ l0_1 _ _ y169 t172 _ ?side1 ?side2 ?side3 ?side4 A11.out).mono ?_
  (case side1 => exact zS (kO HR0_1.out HB.out))
  (case side2 => exact HC0_1.out)
  (case side3 => exact zS (kB HO171.out).2.2)
  (case side4 => exact (kB HO171.out).2.1)
  rintro e w23 ⟨v173, rfl, ho0, hb⟩
  refine ⟨_, rfl, ?_⟩
  have HO174 := zA (kI (kF (kF ho0 (kH (zP HO168.out))) (kH (zP HO171.out))) (kP (zT HB.out GE161.out)))
  replace HO168 := zA (kE (zP HO168.out) (kC ho0) hb)
  replace HO171 := zA (kE (zP HO171.out) (kC ho0) hb)
  replace BK161 := zA (zB1 BK161.out hb)
  replace HB := zA (kQ (zT HB.out GE161.out) hb)
  (try clear hb)
  (try clear hb2)
  (try clear hk)
  (try clear hi)
  (try clear hgw)
  (try clear ho0)
  refine hK.out _ _ ⟨(kV BK161.out 0).trans rfl, (kV BK161.out 1).trans rfl⟩ (fun hHeld => ?_)
  clear hK K
  refine norm_ (a' := ?_) ?_ ?_
  rotate_left
  ·show Act.put _ (some 22) _ = _
   simp only [Act.put, zL, zM, zN, i64_w, i32_w]
   rfl
  refine zp 8 (some 6) #[true, true, true, true, true, true, true, true, true, false] HT_.out ?_
  refine zp 9 (some 7) #[true, true, true, true, true, true, true, true, true, true] HT_.out ?_
  refine done_ (done_of HT_.out (by kernel_rfl)) ?_
  try go_wp2
  go_ret2
  exact ⟨_, zr, by (with_reducible repeat (first | apply zF | apply zG | apply zH)); exact kA HO174.out (fun _ hk => trivial), zT HB.out GE161.out⟩
 rw [if_neg c10] at H
 exact absurd H (by simp)

end Go.Proofs.YtinkolnhpgilpaaDoor.PAll
