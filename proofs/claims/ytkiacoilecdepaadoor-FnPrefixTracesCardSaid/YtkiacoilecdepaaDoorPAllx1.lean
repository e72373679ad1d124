-- Printed by a program of the session (wip/tools/pgen.py) out of the translation. Not trusted: Lean checks it.
import Derived.Test.YtkiacoilecdepaaDoorPAllx0
namespace Go.Proofs.YtkiacoilecdepaaDoor.PAll
open Go.RowKit Go.Proofs.YtkiacoilecdepaaDoor.T Go.Proofs.YtkiacoilecdepaaDoorW.PrintWords Go.Proofs.YtkiacoilecdepaaDoorW.PrintLast Go.Proofs.YtkiacoilecdepaaDoorW.PrintMore
attribute [local go_sem] max2_int min2_int max_two min_two max_three min_three max_four min_four   -- for this text's walks alone
set_option linter.unusedVariables false
set_option linter.unusedSimpArgs false

/-! ### laws_big: function 9 -/
def laws_big.f (l0 : List Int) : Option (Bool) := some (decide ((l0.length : Int) > 4096))
set_option maxHeartbeats 8000000 in
set_option maxRecDepth 100000 in
theorem laws_big.calls (A0 : Option Addr) (c0 : Nat) (l0 : List Int) (r : Bool) (w : World) (hr0 : Kd.C (Kd.int .u8) w A0 l0.length l0) (hc0 : l0.length ≤ c0) (h : laws_big.f l0 = some r) :
  Calls Tryd.prog 9 #[.slice A0 l0.length c0] w fun e w' => e = .returned (.bool r) ∧ Drawn0 w w' := by
 have HR0 := zA hr0
 have HC0 := zA hc0
 clear hr0 hc0
 have H : (some (decide ((l0.length : Int) > 4096))) = some r := h
 clear h
 obtain rfl := Option.some.inj H
 go_enter Tryd.func9, Tryd.ntmps9
 go_wp2
 go_ret
 exact ⟨by first | rfl | (simp; done) | (simp [*]; done), by repeat (first | exact Drawn0.refl _ | apply Drawn0.step)⟩

/-! ### impl_length_int64: function 82 -/
def impl_length_int64.f (l0 : List Int) : Option (Int) := some (l0.length : Int)
set_option maxHeartbeats 8000000 in
set_option maxRecDepth 100000 in
theorem impl_length_int64.calls (A0 : Option Addr) (c0 : Nat) (l0 : List Int) (r : Int) (w : World) (hr0 : Kd.C (Kd.int .i64) w A0 l0.length l0) (hc0 : l0.length ≤ c0) (h : impl_length_int64.f l0 = some r) :
  Calls Tryd.prog 82 #[.slice A0 l0.length c0] w fun e w' => e = .returned (.int .i64 r) ∧ Drawn0 w w' := by
 have HR0 := zA hr0
 have HC0 := zA hc0
 clear hr0 hc0
 have H : (some (l0.length : Int)) = some r := h
 clear h
 obtain rfl := Option.some.inj H
 go_enter Tryd.func82, Tryd.ntmps82
 go_wp2
 go_ret
 exact ⟨by first | rfl | (simp; done) | (simp [*]; done), by repeat (first | exact Drawn0.refl _ | apply Drawn0.step)⟩

/-! ### impl_one: function 105 -/
def impl_one.f (a0 : Int) : Option (Int) := if 0 ≤ a0 then (some (shl .i64 1 a0)) else (none)
set_option maxHeartbeats 8000000 in
set_option maxRecDepth 100000 in
theorem impl_one.calls (a0 : Int) (r : Int) (w : World) (h : impl_one.f a0 = some r) :
  Calls Tryd.prog 105 #[.int .i64 a0] w fun e w' => e = .returned (.int .i64 r) ∧ Drawn0 w w' := by
 have H : (if 0 ≤ a0 then (some (shl .i64 1 a0)) else (none)) = some r := h
 clear h
 by_cases c2 : 0 ≤ a0
 ·rw [if_pos c2] at H
  have c2b0 := eq_true c2
  have c2b1 : decide (0 ≤ a0) = true := decide_eq_true c2
  clear c2
  obtain ⟨ji3, hji3⟩ : ∃ j_ : Int, (shl .i64 1 a0) = j_ := ⟨_, rfl⟩
  replace H : (some ji3) = some r := by first | (rw [hji3] at H; exact H) | (simp only [hji3] at H ⊢; exact H)
  have hji3_ : (IntKind.i64.wrap (1 * 2 ^ min a0.toNat 64)) = ji3 := hji3
  have hji3z : a0 ≤ 64 → (IntKind.i64.wrap (1 * 2 ^ a0.toNat)) = ji3 := shl_small hji3
  have hji3u : (IntKind.i64.wrap (2 ^ min a0.toNat 64)) = ji3 := by have h_ := hji3_; rw [Int.one_mul] at h_; exact h_
  have hji3v : a0 ≤ 64 → (IntKind.i64.wrap (2 ^ a0.toNat)) = ji3 := fun hle_ => by have h_ := hji3z hle_; rw [Int.one_mul] at h_; exact h_
  have hji3y : (wrap64 (1 * 2 ^ min a0.toNat 64)) = ji3 := (i64_w _).symm.trans hji3_
  have hji3x : a0 ≤ 64 → (wrap64 (1 * 2 ^ a0.toNat)) = ji3 := fun h_ => (i64_w _).symm.trans (hji3z h_)
  obtain rfl := Option.some.inj H
  go_enter Tryd.func105, Tryd.ntmps105
  go_wp2
  go_ret
  exact ⟨by first | rfl | (simp; done) | (simp only [← hji3] <;> (first | rfl | simp)) | (simp [*]; done), by repeat (first | exact Drawn0.refl _ | apply Drawn0.step)⟩
 rw [if_neg c2] at H
 exact absurd H (by simp)

/-! ### bits_TrailingZeros64: function 112: a contract of our own -/
def bits_TrailingZeros64.f (a0 : Int) : Option Int := if 0 ≤ a0 ∧ a0 < 18446744073709551616 then some (Lib.ctz 64 a0.toNat : Int) else none

set_option maxHeartbeats 1000000 in
theorem tz64_core (x k idx : Nat) (w : World) (hx0 : ((x : Int) == 0) = false)
  (key : IntKind.u64.wrap (bits BinOp.and IntKind.u64 (x : Int) (IntKind.u64.wrap (-(x : Int))) * 285870213051353865) / 288230376151711744 = (idx : Int))
  (hi : idx < 64) (hk : k < 64) (hcell : w.cell? ⟨0, idx, none⟩ = some (.int .u8 k)) :
  Calls Tryd.prog 112 #[.int .u64 x] w fun e w' => e = .returned (.int .i64 k) ∧ w = w' := by
 go_enter Tryd.func112, Tryd.ntmps112
 go_wp2_with (simp only [key])
 go_ret
 exact ⟨rfl, rfl⟩
theorem tz64_zero (w : World) : Calls Tryd.prog 112 #[.int .u64 0] w fun e w' => e = .returned (.int .i64 64) ∧ w = w' := by
 go_enter Tryd.func112, Tryd.ntmps112
 go_wp2
 go_ret
 exact ⟨rfl, rfl⟩
theorem tz64_key (x a : Nat) (hx : x < 18446744073709551616) (hx0 : x ≠ 0) (hlow : x &&& (18446744073709551616 - x) = a) :
  IntKind.u64.wrap (bits BinOp.and IntKind.u64 (x : Int) (IntKind.u64.wrap (-(x : Int))) * 285870213051353865) / 288230376151711744 = ((a * 285870213051353865 % 18446744073709551616 / 288230376151711744 : Nat) : Int) := by
 have e1 : IntKind.u64.wrap (-(x : Int)) = ((18446744073709551616 - x : Nat) : Int) := by rw [IntKind.wrap_u64]; omega
 rw [e1, bits_and_u64_nat x _ hx (by omega), hlow, IntKind.wrap_u64]
 omega
theorem bits_TrailingZeros64.calls (a0 : Int) (r : Int) (w : World) (hT : TabW w) (h : bits_TrailingZeros64.f a0 = some r) :
  Calls Tryd.prog 112 #[.int .u64 a0] w fun e w' => e = .returned (.int .i64 r) ∧ Drawn0 w w' := by
 unfold bits_TrailingZeros64.f at h
 split at h
 ·rename_i hr
  obtain ⟨x, rfl⟩ := Int.eq_ofNat_of_zero_le hr.1
  rw [Int.toNat_natCast] at h
  injection h with h
  subst h
  by_cases hx0 : x = 0
  ·subst hx0
   exact (tz64_zero w).mono fun e w' ⟨he, hw⟩ => ⟨he, ⟨0, hw.symm⟩⟩
  obtain ⟨hlow, hk⟩ := Lib.lowest_bit 64 x hx0 (by omega)
  obtain ⟨hi, htab⟩ := Lib.deBruijn64_at _ hk
  have hcell := hT _ hi
  rw [htab] at hcell
  exact (tz64_core x _ _ w (by simp; omega) (tz64_key x _ (by omega) hx0 hlow) hi hk hcell).mono fun e w' ⟨he, hw⟩ => ⟨he, ⟨0, hw.symm⟩⟩
 cases h

/-! ### impl_least: function 62 -/
def impl_least.f (a0 : Int) : Option (Int) := (bits_TrailingZeros64.f (IntKind.u64.wrap (a0))).bind fun t101 => (some t101)
set_option maxHeartbeats 8000000 in
set_option maxRecDepth 100000 in
theorem impl_least.calls (a0 : Int) (r : Int) (w : World) (hT : TabW w) (h : impl_least.f a0 = some r) :
  Calls Tryd.prog 62 #[.int .i64 a0] w fun e w' => e = .returned (.int .i64 r) ∧ Drawn0 w w' := by
 have HT := zA hT
 clear hT
 have H : ((bits_TrailingZeros64.f (IntKind.u64.wrap (a0))).bind fun t101 => (some t101)) = some r := h
 clear h
 obtain ⟨t101, A2, H⟩ := zb H
 try dsimp only at H
 obtain rfl := Option.some.inj H
 go_enter Tryd.func62, Tryd.ntmps62
 go_wp2_with (first | ((with_reducible refine gate_callee (f := 112) rfl ?_); refine zO (some 5) Tryd.func112 #[.int .u64 (IntKind.u64.wrap (a0))] ?_; (with_reducible refine (bits_TrailingZeros64.calls (IntKind.u64.wrap (a0)) t101 _ ?side1 A2.out).mono ?_); (case side1 => repeat (first | (with_reducible first | exact HT.out | apply TabW.drewN | apply TabW.drew | apply TabW.alloc) | exact HT.out)); rintro e w' ⟨rfl, ⟨nd, rfl⟩⟩; refine ⟨_, rfl, ?_⟩))
 go_ret
 exact ⟨by first | rfl | (simp; done) | (simp [*]; done), by repeat (first | exact Drawn0.refl _ | apply Drawn0.step)⟩

/-! ### impl_members: function 119 -/
def impl_members.l0 : Nat → Int → List Int → Option (List Int)
 | 0, _, _ => none
 | k + 1, x0, x3 => if x0 = 0 then (some x3) else ((impl_least.f x0).bind fun t105 => (if x3.length < 17592186044416 then (impl_members.l0 k (Go.bits .and .i64 x0 (wrap64 (x0 - 1))) (x3 ++ [t105])) else (none)))
def impl_members.f (k : Nat) (a0 : Int) : Option (List Int) := impl_members.l0 k a0 (([] : List Int))

set_option maxHeartbeats 8000000 in
set_option maxRecDepth 100000 in
theorem impl_members.calls (k : Nat) (a0 : Int) (r : List Int) (w : World) (hT : TabW w) (h : impl_members.f k a0 = some r) :
  Calls Tryd.prog 119 #[.int .i64 a0] w fun e w' => ∃ v0_ : Value, e = .returned (v0_) ∧ Kd.R (Kd.int .i64) 2 w' w.heap.size (fun _ => True) v0_ r ∧ Below w.heap.size w w' := by
 have HT := zA hT
 clear hT
 have HB := zA (Below.refl w.heap.size w)
 have H : (impl_members.l0 k a0 (([] : List Int))) = some r := h
 clear h
 obtain ⟨y102, hy102⟩ : ∃ y_ : List Int, y_ = (([] : List Int)) := ⟨_, rfl⟩
 replace H : (impl_members.l0 k a0 y102) = some r := zy hy102 H
 have Ny102 := zA hy102
 clear hy102
 have H' := zA H
 clear H
 go_enter Tryd.func119, Tryd.ntmps119
 go_wp2_with (first | ((with_reducible refine gate_dst (N := 4) rfl ?_); refine Kd.R_lit (Kd.int .i64) _ 2 ?hg (N := 4) ?hd (xs := ([] : List Int)) (inner := []) (ok := fun _ => True) (okp := fun _ => True) ?hr ?hp (fun _ hk => hk) trivial (Below.refl _ _) (Nat.le_refl _) (by simp) ?_; (case hd => rfl); (case hg => rfl); (case hr => first | (go_simp; done) | (go_simp; rfl)); (case hp => exact (Reps.none _ _)); intro v103 w2 ho3 hb hg_ hnew_; clear hg_ hnew_; (first | rw [← Ny102.out] at ho3 | (simp only [Int.reduceToNat] at ho3; rw [← Ny102.out] at ho3)); have HO104 := zA (Kd.R_lower ho3 (below_size (zQ HB.out))); replace HB := zA (below_step (zQ HB.out) hb); clear hb ho3))
 go_loopg [0, 3] k (fun kq v0 v3 w' => ∃ (x0_1 : Int) (x3_1 : List Int), v0 = .int .i64 x0_1 ∧ Aside0 (impl_members.l0 kq x0_1 x3_1 = some r) ∧ Aside0 (kq ≤ k) ∧ Aside0 (Kd.R (Kd.int .i64) 2 w' w.heap.size (fun _ => True) v3 x3_1) ∧ Aside0 (Below w.heap.size w w'))
 case atStart => exact ⟨(a0), (y102), (by first | rfl | (simp; done) | (simp [*]; done)), H', ⟨Nat.le_refl _⟩, ⟨by (with_reducible repeat (first | apply zF | apply zG | apply zH)); exact HO104.out⟩, ⟨zQ HB.out⟩⟩
 case round =>
  clear H'
  try clear c1
  try clear p2
  obtain ⟨x0_1, x3_1, rfl, HA, HK1, HO_3, HB⟩ := hrel
  cases gk with
  | zero => exact absurd HA.out (by simp [impl_members.l0])
  | succ k1 =>
   have H := HA.out
   clear HA
   simp only [impl_members.l0] at H
   by_cases c4 : x0_1 = 0
   ·rw [if_pos c4] at H
    have c4b0 : (x0_1 == 0) = true := beq_iff_eq.mpr c4
    have c4b1 : (x0_1 != 0) = false := bne_eq_false_iff_eq.mpr c4
    clear c4
    obtain rfl := Option.some.inj H
    go_wp2
    go_ret
    exact ⟨_, zr, zP HO_3.out, zQ HB.out⟩
   rw [if_neg c4] at H
   have c4b0 : (x0_1 == 0) = false := beq_eq_false_iff_ne.mpr c4
   have c4b1 : (x0_1 != 0) = true := bne_iff_ne.mpr c4
   obtain ⟨t105, A5, H⟩ := zb H
   try dsimp only at H
   by_cases c6 : x3_1.length < 17592186044416
   ·rw [if_pos c6] at H
    have LMc6 := zA c6
    clear c6
    obtain ⟨y106, hy106⟩ : ∃ y_ : List Int, y_ = (x3_1 ++ [t105]) := ⟨_, rfl⟩
    replace H : (impl_members.l0 k1 (Go.bits .and .i64 x0_1 (wrap64 (x0_1 - 1))) y106) = some r := zy hy106 H
    have Ny106 := zA hy106
    clear hy106
    have H' := zA H
    clear H
    go_wp2_with (first | ((with_reducible refine gate_callee (f := 62) rfl ?_); refine zO (some 13) Tryd.func62 #[.int .i64 x0_1] ?_; (with_reducible refine (impl_least.calls x0_1 t105 _ ?side1 A5.out).mono ?_); (case side1 => exact TabW.below HT.out (zQ HB.out)); rintro e w' ⟨rfl, ⟨nd, rfl⟩⟩; refine ⟨_, rfl, ?_⟩) | ((with_reducible refine gate_builtin (b := .append) (xs := #[.tmp 11, .tmp 14]) rfl ?_); at_builtin; refine Kd.R_append (Kd.int .i64) (w0 := w) w.heap.size rfl (.tmp 11) (.tmp 14) 24 2 (.int .i64 0) 8 rfl Tryd.underlying24 info2 rfl (by decide) (by omega) u3 x3_1 t105 [.int .i64 t105] (fun _ => True) (fun _ => False) rfl rfl ?aP (fun _ hk => hk.elim) ?aF ?aO ?aB ?aS ?aL ?_; (case aP => exact rfl); (case aB => exact (zQ HB.out)); (case aF => exact (fun _ _ => trivial)); (case aO => exact (zP HO_3.out)); (case aS => exact (below_size (zQ HB.out))); (case aL => have := LMc6.out; omega); intro v107 w7 ho hb hg hat; rw [← Ny106.out] at ho; replace HB := zA (hb); have HO108 := zA (ho); clear HO_3; clear ho hb hg hat))
    go_roundg k1
    case measure => have := HK1.out; omega
    case rel => exact ⟨(Go.bits .and .i64 x0_1 (wrap64 (x0_1 - 1))), (y106), (by first | rfl | (simp; done) | (simp [*]; done)), H', ⟨by have := HK1.out; omega⟩, ⟨by (with_reducible repeat (first | apply zF | apply zG | apply zH)); exact HO108.out⟩, ⟨zQ HB.out⟩⟩
   rw [if_neg c6] at H
   exact absurd H (by simp)

/-! ### impl_converse: function 85 -/
mutual
def impl_converse.l0 : Nat → List Int → List Int → Int → Int → Option (List Int)
 | 0, _, _, _, _ => none
 | k + 1, x3, x11, x12, x13 => if x13 < x12 then (if 0 ≤ x13 then (if x13 < (x11.length : Int) then ((impl_members.f k (rd x11 x13)).bind fun t113 => (impl_converse.l1 k x3 x13 x11 x12 x13 t113 (t113.length : Int) 0)) else (none)) else (none)) else (some x3)
def impl_converse.l1 : Nat → List Int → Int → List Int → Int → Int → List Int → Int → Int → Option (List Int)
 | 0, _, _, _, _, _, _, _, _ => none
 | k + 1, x3, x4, x11, x12, x13, x19, x20, x21 => if x21 < x20 then (if 0 ≤ x21 then (if x21 < (x19.length : Int) then (if 0 ≤ (rd x19 x21) then (if (rd x19 x21) < (x3.length : Int) then ((impl_one.f x4).bind fun t118 => (impl_converse.l1 k (x3.set ((rd x19 x21) : Int).toNat (Go.bits .or .i64 (rd x3 (rd x19 x21)) t118)) x4 x11 x12 x13 x19 x20 (wrap64 (x21 + 1)))) else (none)) else (none)) else (none)) else (none)) else (impl_converse.l0 k x3 x11 x12 (wrap64 (x13 + 1)))
end
def impl_converse.f (k : Nat) (l0 : List Int) : Option (List Int) := if 0 ≤ (l0.length : Int) then (if ((l0.length : Int) : Int).toNat ≤ 35184372088832 then (impl_converse.l0 k (List.replicate ((l0.length : Int) : Int).toNat 0) l0 (l0.length : Int) 0) else (none)) else (none)

def impl_converse.T8 : Bool × List (List Nat × List Nat) := (true, [([], []), ([], []), ([0, 1], [0, 1]), ([2], [2]), ([], []), ([4], [4]), ([3, 5], [3, 5]), ([0, 1, 0, 1, 2, 3, 4, 5, 6], [0, 1]), ([7, 6, 5, 0, 1, 2, 3, 4, 5, 6], [6, 7])])
def impl_converse.B8 : List Nat := [0, 0, 3, 7, 0, 16, 63, 127, 255]
theorem impl_converse.tab8 : rtab .any (opsOf Tryd.f85 8) = impl_converse.T8 := by kernel_rfl
theorem impl_converse.bits8 : waitsOk impl_converse.T8.2 impl_converse.B8 = true := by kernel_rfl
set_option maxHeartbeats 8000000 in
set_option maxRecDepth 100000 in
theorem impl_converse.calls (k : Nat) (A0 : Option Addr) (c0 : Nat) (l0 : List Int) (r : List Int) (w : World) (hr0 : Kd.C (Kd.int .i64) w A0 l0.length l0) (hc0 : l0.length ≤ c0) (hT : TabW w) (h : impl_converse.f k l0 = some r) :
  Calls Tryd.prog 85 #[.slice A0 l0.length c0] w fun e w' => ∃ v0_ : Value, e = .returned (v0_) ∧ Kd.R (Kd.int .i64) 2 w' w.heap.size (fun _ => True) v0_ r ∧ Below w.heap.size w w' := by
 have HT := zA hT
 clear hT
 have HR0 := zA hr0
 have HC0 := zA hc0
 clear hr0 hc0
 have HB := zA (Below.refl w.heap.size w)
 have H : (if 0 ≤ (l0.length : Int) then (if ((l0.length : Int) : Int).toNat ≤ 35184372088832 then (impl_converse.l0 k (List.replicate ((l0.length : Int) : Int).toNat 0) l0 (l0.length : Int) 0) else (none)) else (none)) = some r := h
 clear h
 by_cases c2 : 0 ≤ (l0.length : Int)
 ·rw [if_pos c2] at H
  have c2b0 := eq_true c2
  have c2b1 : decide (0 ≤ (l0.length : Int)) = true := decide_eq_true c2
  clear c2
  by_cases c3 : ((l0.length : Int) : Int).toNat ≤ 35184372088832
  ·rw [if_pos c3] at H
   have c3b0 := eq_true c3
   have c3b1 : decide (((l0.length : Int) : Int).toNat ≤ 35184372088832) = true := decide_eq_true c3
   clear c3
   obtain ⟨y109, hy109⟩ : ∃ y_ : List Int, y_ = (List.replicate ((l0.length : Int) : Int).toNat 0) := ⟨_, rfl⟩
   replace H : (impl_converse.l0 k y109 l0 (l0.length : Int) 0) = some r := zy hy109 H
   have Ny109 := zA hy109
   clear hy109
   have H' := zA H
   clear H
   go_enter Tryd.func85, Tryd.ntmps85
   go_wp2_with (first | ((with_reducible refine gate_dst (N := 10) rfl ?_); refine Kd.R_make (Kd.int .i64) _ 2 rfl (N := 10) rfl 24 _ _ rfl (l0.length : Int) rfl rfl Tryd.underlying24 (.int .i64 0) 8 info2 rfl (by decide) (by omega) 0 (ok := fun _ => True) (okp := fun _ => True) rfl (fun _ hk => hk) trivial (zd) (Nat.le_trans (Nat.mul_le_mul_right _ (zd : (l0.length : Int).toNat ≤ 35184372088832)) (by omega)) (Below.refl _ _) (Nat.le_refl _) ?_; intro v110 w4 ho5 hb hg_ hnew_; clear hg_ hnew_; (first | rw [← Ny109.out] at ho5 | (simp only [Int.reduceToNat] at ho5; rw [← Ny109.out] at ho5)); have HO111 := zA (Kd.R_lower ho5 (below_size (zQ HB.out))); replace HB := zA (below_step (zQ HB.out) hb); clear hb ho5))
   go_loopg [13] k (fun kq v13 w' => ∃ (x3_1 : List Int) (x13_1 : Int), v13 = .int .i64 x13_1 ∧ Aside0 (impl_converse.l0 kq x3_1 l0 (l0.length : Int) x13_1 = some r) ∧ Aside0 (kq ≤ k) ∧ Aside0 (Kd.R (Kd.int .i64) 2 w' w.heap.size (fun _ => True) v110 x3_1) ∧ Aside0 (Below w.heap.size w w'))
   case atStart => exact ⟨(y109), (0), (by first | rfl | (simp; done) | (simp [*]; done)), H', ⟨Nat.le_refl _⟩, ⟨by (with_reducible repeat (first | apply zF | apply zG | apply zH)); exact HO111.out⟩, ⟨zQ HB.out⟩⟩
   case round =>
    clear H'
    try clear c2
    try clear c2b0
    try clear c2b1
    try clear p2
    try clear c3
    try clear c3b0
    try clear c3b1
    obtain ⟨x3_1, x13_1, rfl, HA, HK1, HO_3, HB⟩ := hrel
    cases gk with
    | zero => exact absurd HA.out (by simp [impl_converse.l0])
    | succ k1 =>
     have H := HA.out
     clear HA
     simp only [impl_converse.l0] at H
     by_cases c6 : x13_1 < (l0.length : Int)
     ·rw [if_pos c6] at H
      have c6b0 : decide (x13_1 < (l0.length : Int)) = true := decide_eq_true c6
      clear c6
      by_cases c7 : 0 ≤ x13_1
      ·rw [if_pos c7] at H
       have c7b0 : decide (0 ≤ x13_1) = true := decide_eq_true c7
       clear c7
       by_cases c8 : x13_1 < (l0.length : Int)
       ·rw [if_pos c8] at H
        have c8b0 : decide (x13_1 < (l0.length : Int)) = true := decide_eq_true c8
        clear c8
        obtain ⟨t113, A9, H⟩ := zb H
        try dsimp only at H
        have H' := zA H
        clear H
        have p112 : 0 ≤ (x13_1 : Int) := zd
        have q112 : x13_1 < (l0.length : Int) := zd
        obtain ⟨ad112, e112, hx112_0⟩ := Kd.at_int HR0.out x13_1 p112 q112
        cases e112
        replace hx112_0 := (HB.out.cell (World.block_lt_of_cell? w _ hx112_0)).trans hx112_0
        replace p112 := eq_true p112
        replace q112 := eq_true q112
        go_wp2_with (first | ((with_reducible refine gate_callee (f := 119) rfl ?_); refine zO (some 19) Tryd.func119 #[.int .i64 (rd l0 x13_1)] ?_; (with_reducible refine (impl_members.calls k1 (rd l0 x13_1) t113 _ ?side1 A9.out).mono ?_); (case side1 => exact TabW.below HT.out (zQ HB.out)); rintro e w10 ⟨v114, rfl, ho0, hb⟩; refine ⟨_, rfl, ?_⟩; have HO115 := zA (Kd.R_lower (Kd.R_new' ho0 (Kd.R_lt (zP HO_3.out))) (below_size (zQ HB.out))); replace HO_3 := zA (Kd.R_elder' (zP HO_3.out) (Kd.R_base ho0) hb); replace HB := zA (below_step (zQ HB.out) hb); (try clear hb); (try clear ho0); obtain ⟨Ao11, co11, eo11⟩ := Kd.R_slice HO115.out; subst eo11))
        go_loopg [21] k1 (fun kq v21 w' => ∃ (x3_2 : List Int) (x21_2 : Int), v21 = .int .i64 x21_2 ∧ Aside0 (impl_converse.l1 kq x3_2 x13_1 l0 (l0.length : Int) x13_1 t113 (t113.length : Int) x21_2 = some r) ∧ Aside0 (kq ≤ k1) ∧ Aside0 (Kd.R (Kd.int .i64) 2 w' w.heap.size (fun k_ => some k_ ≠ ((.slice Ao11 t113.length co11) : Value).ownBlock) v110 x3_2) ∧ Aside0 (Kd.R (Kd.int .i64) 2 w' w.heap.size (fun k_ => some k_ ≠ (v110 : Value).ownBlock) (.slice Ao11 t113.length co11) t113) ∧ Aside0 (Below w.heap.size w w'))
        case atStart => exact ⟨(x3_1), (0), (by first | rfl | (simp; done) | (simp [*]; done)), H', ⟨Nat.le_refl _⟩, ⟨by (with_reducible repeat (first | apply zF | apply zG | apply zH)); exact Kd.R_mono HO_3.out (fun _ hk => hk.2)⟩, ⟨by (with_reducible repeat (first | apply zF | apply zG | apply zH)); exact Kd.R_mono HO115.out (fun _ hk => hk.2)⟩, ⟨zQ HB.out⟩⟩
        case round =>
         clear H'
         try clear c1
         try clear p1
         try clear q1
         try clear hx1
         try clear c2
         try clear c2b0
         try clear c2b1
         try clear p2
         try clear c3
         try clear c3b0
         try clear c3b1
         try clear c6
         try clear c6b0
         try clear c7
         try clear c7b0
         try clear c8
         try clear c8b0
         try clear c11
         try clear p11
         try clear q11
         try clear hx11
         try clear hx112_0
         try clear p112
         try clear p2
         try clear q112
         obtain ⟨x3_2, x21_2, rfl, HA, HK2, HO_3, HO_19, HB⟩ := hrel
         cases gk with
         | zero => exact absurd HA.out (by simp [impl_converse.l1])
         | succ k2 =>
          have H := HA.out
          clear HA
          simp only [impl_converse.l1] at H
          by_cases c12 : x21_2 < (t113.length : Int)
          ·rw [if_pos c12] at H
           have c12b0 : decide (x21_2 < (t113.length : Int)) = true := decide_eq_true c12
           clear c12
           by_cases c13 : 0 ≤ x21_2
           ·rw [if_pos c13] at H
            have c13b0 : decide (0 ≤ x21_2) = true := decide_eq_true c13
            clear c13
            by_cases c14 : x21_2 < (t113.length : Int)
            ·rw [if_pos c14] at H
             have c14b0 : decide (x21_2 < (t113.length : Int)) = true := decide_eq_true c14
             clear c14
             by_cases c15 : 0 ≤ (rd t113 x21_2)
             ·rw [if_pos c15] at H
              have c15b0 : decide (0 ≤ (rd t113 x21_2)) = true := decide_eq_true c15
              clear c15
              by_cases c16 : (rd t113 x21_2) < (x3_2.length : Int)
              ·rw [if_pos c16] at H
               have c16b0 : decide ((rd t113 x21_2) < (x3_2.length : Int)) = true := decide_eq_true c16
               clear c16
               obtain ⟨t118, A17, H⟩ := zb H
               try dsimp only at H
               obtain ⟨y119, hy119⟩ : ∃ y_ : List Int, y_ = (x3_2.set ((rd t113 x21_2) : Int).toNat (Go.bits .or .i64 (rd x3_2 (rd t113 x21_2)) t118)) := ⟨_, rfl⟩
               replace H : (impl_converse.l1 k2 y119 x13_1 l0 (l0.length : Int) x13_1 t113 (t113.length : Int) (wrap64 (x21_2 + 1))) = some r := zy hy119 H
               have Ny119 := zA hy119
               clear hy119
               have H' := zA H
               clear H
               have p116 : 0 ≤ (x21_2 : Int) := zd
               have q116 : x21_2 < (t113.length : Int) := zd
               obtain ⟨ad116, e116, hx116_0⟩ := Kd.at_int (Kd.R_reads' HO_19.out).2.2 x21_2 p116 q116
               cases e116
               replace p116 := eq_true p116
               replace q116 := eq_true q116
               try go_wp2
               replace HO_3 := zA (zH HO_3.out)
               replace HO_19 := zA (zH HO_19.out)
               replace HB := zA (zD HB.out)
               obtain ⟨Ao20, co20, eo20⟩ := Kd.R_slice HO_3.out
               (first | subst eo20 | (injection eo20 with f1_ f2_ f3_; have f4_ := f1_.symm; have f5_ := f3_.symm; clear f1_ f2_ f3_; subst f4_; subst f5_))
               have p117 : 0 ≤ ((rd t113 x21_2) : Int) := zd
               have q117 : (rd t113 x21_2) < (x3_2.length : Int) := zd
               obtain ⟨ad117, e117, hx117_0⟩ := Kd.at_int (Kd.R_reads' HO_3.out).2.2 (rd t113 x21_2) p117 q117
               cases e117
               replace p117 := eq_true p117
               replace q117 := eq_true q117
               refine start_ (n := 9) (S := fun w' => w'.cell? (ad117.add ((rd t113 x21_2)).toNat) = some (.int .i64 (rd x3_2 (rd t113 x21_2)))) (ds := [8]) #[false, false, false, false, false, false, false, false, false] (by kernel_rfl) rfl rfl (hx117_0) (fun hHeld => ?_); refine with_tabW impl_converse.tab8 impl_converse.bits8 (fun HT_ HW_ => ?_)
               generalize wr.drew = w19 at HO_3 HO_19 HB hx117_0 hHeld ⊢
               refine zp 0 (some 25) #[true, false, false, false, false, false, false, false, false] HT_.out ?_
               refine zp 1 (some 26) #[true, true, false, false, false, false, false, false, false] HT_.out ?_
               refine zp 2 (some 27) #[true, true, true, false, false, false, false, false, false] HT_.out ?_
               refine zp 4 (some 29) #[true, true, true, false, true, false, false, false, false] HT_.out ?_
               refine za 3 (some 28) #[true, true, true, true, true, false, false, false, false] HT_.out HW_.out hHeld ?_
               refine one_ (i := 5) (N := some 30) #[true, true, true, true, true, true, false, false, false] rfl rfl (one_of HT_.out (by kernel_rfl)) (by decide) (fun K hK => ?_)
               refine goes_ Tryd.func105 (by kernel_rfl) rfl #[.int .i64 x13_1] (by rfl) rfl rfl (by (try simp only [List.map_toArray, List.map_cons, List.map_nil]); first | done | rfl | (simp only [List.length_drop, List.length_take]; rfl)) ?_
               with_reducible refine (impl_one.calls x13_1 t118 _ A17.out).mono ?_
               rintro e w' ⟨rfl, ⟨nd, rfl⟩⟩
               refine ⟨_, rfl, ?_⟩
               have p18 : 0 ≤ ((rd t113 x21_2) : Int) := zd
               have q18 : ((rd t113 x21_2) : Int) < ((x3_2.length : Int) : Int) := zd
               obtain ⟨go18, co18, eo18, gb18, gl18, cl18, HG18⟩ := Kd.R_form HO_3.out (by omega)
               (first | cases eo18 | (injection eo18 with ea_ en_ ec_; (first | subst ea_ | (injection ea_ with ea_; subst ea_)); subst ec_; clear en_))
               have GB18 := zA gb18
               have GG18 := zA HG18
               clear gb18 gl18 HG18
               (first | simp only [add_plain] at hx117_0 | skip)
               obtain ⟨hx18_0, hf18_0⟩ := Kd.R_celln 0 HO_3.out ((rd t113 x21_2) : Int) p18 q18
               replace p18 := eq_true p18
               replace q18 := eq_true q18
               have HP21 := Kd.R_putn HO_3.out ((rd t113 x21_2) : Int) (Go.bits .or .i64 (rd x3_2 (rd t113 x21_2)) t118)
               rw [← Ny119.out] at HP21
               have HQ21 := zA HP21
               clear HP21
               refine hK.out _ _ (hHeld) (fun hHeld => ?_)
               clear hK K
               refine norm_ (a' := ?_) ?_ ?_
               rotate_left
               ·show Act.put _ (some 30) _ = _
                simp only [Act.put, zL, zM, zN, i64_w, i32_w]
                rfl
               refine zp 6 (some 31) #[true, true, true, true, true, true, true, false, false] HT_.out ?_
               refine zp 7 (some 32) #[true, true, true, true, true, true, true, true, false] HT_.out ?_
               refine last_ (i := 8) (N := none) #[true, true, true, true, true, true, true, true, true] rfl rfl (one_of HT_.out (by kernel_rfl)) (by decide) (fun K hK => ?_)
               refine skip_ (w1 := ?_) (by rfl) rfl ?_ ?_
               rotate_left
               ·go_simp
                rfl
               refine hK.out _ _ ?_
               clear hK K
               refine done_ (done_of HT_.out (by kernel_rfl)) ?_
               try go_wp2
               go_roundg k2
               case measure => have := HK1.out; have := HK2.out; omega
               case rel => exact ⟨(y119), (wrap64 (x21_2 + 1)), (by first | rfl | (simp; done) | (simp [*]; done)), H', ⟨by have := HK1.out; have := HK2.out; omega⟩, ⟨by (with_reducible repeat (first | apply zF | apply zG | apply zH)); exact HQ21.out⟩, ⟨by (with_reducible repeat (first | apply zF | apply zG | apply zH)); exact Kd.R_mono (Kd.R_far (p := ⟨go18, ((rd t113 x21_2) : Int).toNat, none⟩) (Kd.R_mono HO_19.out (fun k_ hk => (⟨hk, fun e_ => hk (by rw [e_]; rfl)⟩ : _ ∧ k_ ≠ go18))) (fun _ hk => hk.2) (.int .i64 (Go.bits .or .i64 (rd x3_2 (rd t113 x21_2)) t118))) (fun _ hk => hk.1)⟩, ⟨zT HB.out GB18.out⟩⟩
              rw [if_neg c16] at H
              exact absurd H (by simp)
             rw [if_neg c15] at H
             exact absurd H (by simp)
            rw [if_neg c14] at H
            exact absurd H (by simp)
           rw [if_neg c13] at H
           exact absurd H (by simp)
          rw [if_neg c12] at H
          have c12b0 : decide (x21_2 < (t113.length : Int)) = false := decide_eq_false c12
          clear c12
          have H' := zA H
          clear H
          go_wp2
          go_roundg k2
          case measure => have := HK1.out; have := HK2.out; omega
          case rel => exact ⟨(x3_2), (wrap64 (x13_1 + 1)), (by first | rfl | (simp; done) | (simp [*]; done)), H', ⟨by have := HK1.out; have := HK2.out; omega⟩, ⟨by (with_reducible repeat (first | apply zF | apply zG | apply zH)); exact Kd.R_mono HO_3.out (fun _ hk => trivial)⟩, ⟨zQ HB.out⟩⟩
       rw [if_neg c8] at H
       exact absurd H (by simp)
      rw [if_neg c7] at H
      exact absurd H (by simp)
     rw [if_neg c6] at H
     have c6b0 : decide (x13_1 < (l0.length : Int)) = false := decide_eq_false c6
     clear c6
     obtain rfl := Option.some.inj H
     go_wp2
     go_ret
     exact ⟨_, zr, zP HO_3.out, zQ HB.out⟩
  rw [if_neg c3] at H
  exact absurd H (by simp)
 rw [if_neg c2] at H
 exact absurd H (by simp)

/-! ### impl_has: function 104 -/
def impl_has.f (a0 : Int) (a1 : Int) : Option (Bool) := if 0 ≤ a1 then (some ((Go.bits .and .i64 (shr .i64 a0 a1) 1) == 1)) else (none)
set_option maxHeartbeats 8000000 in
set_option maxRecDepth 100000 in
theorem impl_has.calls (a0 : Int) (a1 : Int) (r : Bool) (w : World) (h : impl_has.f a0 a1 = some r) :
  Calls Tryd.prog 104 #[.int .i64 a0, .int .i64 a1] w fun e w' => e = .returned (.bool r) ∧ Drawn0 w w' := by
 have H : (if 0 ≤ a1 then (some ((Go.bits .and .i64 (shr .i64 a0 a1) 1) == 1)) else (none)) = some r := h
 clear h
 by_cases c3 : 0 ≤ a1
 ·rw [if_pos c3] at H
  have c3b0 := eq_true c3
  have c3b1 : decide (0 ≤ a1) = true := decide_eq_true c3
  clear c3
  obtain ⟨ji4, hji4⟩ : ∃ j_ : Int, (shr .i64 a0 a1) = j_ := ⟨_, rfl⟩
  replace H : (some ((Go.bits .and .i64 (ji4) 1) == 1)) = some r := by first | (rw [hji4] at H; exact H) | (simp only [hji4] at H ⊢; exact H)
  have hji4_ : (a0 / 2 ^ min a1.toNat 64) = ji4 := hji4
  have hji4z : a1 ≤ 64 → (a0 / 2 ^ a1.toNat) = ji4 := shr_small hji4
  obtain rfl := Option.some.inj H
  go_enter Tryd.func104, Tryd.ntmps104
  go_wp2
  go_ret
  exact ⟨by first | rfl | (simp; done) | (simp only [← hji4] <;> (first | rfl | simp)) | (simp [*]; done), by repeat (first | exact Drawn0.refl _ | apply Drawn0.step)⟩
 rw [if_neg c3] at H
 exact absurd H (by simp)

/-! ### impl_inRange: function 111 -/
def impl_inRange.f (a0 : Int) (a1 : Int) (a2 : Int) : Option (Bool) := if a1 ≤ a0 then (some (decide (a0 ≤ a2))) else (some false)
set_option maxHeartbeats 8000000 in
set_option maxRecDepth 100000 in
theorem impl_inRange.calls (a0 : Int) (a1 : Int) (a2 : Int) (r : Bool) (w : World) (h : impl_inRange.f a0 a1 a2 = some r) :
  Calls Tryd.prog 111 #[.int .i64 a0, .int .i64 a1, .int .i64 a2] w fun e w' => e = .returned (.bool r) ∧ Drawn0 w w' := by
 have H : (if a1 ≤ a0 then (some (decide (a0 ≤ a2))) else (some false)) = some r := h
 clear h
 by_cases c4 : a1 ≤ a0
 ·rw [if_pos c4] at H
  have c4b0 : decide (a1 ≤ a0) = true := decide_eq_true c4
  clear c4
  obtain rfl := Option.some.inj H
  go_enter Tryd.func111, Tryd.ntmps111
  go_wp2
  go_ret
  exact ⟨by first | rfl | (simp; done) | (simp [*]; done), by repeat (first | exact Drawn0.refl _ | apply Drawn0.step)⟩
 rw [if_neg c4] at H
 have c4b0 : decide (a1 ≤ a0) = false := decide_eq_false c4
 clear c4
 obtain rfl := Option.some.inj H
 go_enter Tryd.func111, Tryd.ntmps111
 go_wp2
 go_ret
 exact ⟨by first | rfl | (simp; done) | (simp [*]; done), by repeat (first | exact Drawn0.refl _ | apply Drawn0.step)⟩

-- NOT PRINTED: function 134 (slices_IndexFunc_int64_int64_134)

-- NOT PRINTED: function 130 (slices_ContainsFunc_int64_int64_130)

/-! ### impl_allIn: function 126: a contract of our own -/
def impl_allIn.f (l0 : List Int) (a1 a2 : Int) : Option Bool := some (l0.all fun x => decide (a1 ≤ x ∧ x ≤ a2))
theorem allIn_pred (l : List Int) (lo hi : Int) (B : Nat) (w : World) (hB : B + 1 < w.heap.size) (h1 : w.cell? ⟨B, 0, none⟩ = some (.int .i64 lo)) (h2 : w.cell? ⟨B + 1, 0, none⟩ = some (.int .i64 hi)) :
  PredOf 131 #[.pointer (some ⟨B, 0, none⟩), .pointer (some ⟨B + 1, 0, none⟩)] (fun x => !decide (lo ≤ x ∧ x ≤ hi)) w l := fun W x _ hb => by
 have hc1 : W.cell? ⟨B, 0, none⟩ = some (.int .i64 lo) := (hb.cell (p := ⟨B, 0, none⟩) (by simp; omega)).trans h1
 have hc2 : W.cell? ⟨B + 1, 0, none⟩ = some (.int .i64 hi) := (hb.cell (p := ⟨B + 1, 0, none⟩) (by simpa using hB)).trans h2
 clear h1 h2 hb
 show Calls Tryd.prog 131 #[.int .i64 x, .pointer (some ⟨B, 0, none⟩), .pointer (some ⟨B + 1, 0, none⟩)] W _
 by_cases c1 : lo ≤ x <;> by_cases c2 : x ≤ hi
 all_goals
  go_enter Tryd.func131, Tryd.ntmps131
  go_wp2
  go_ret
  exact ⟨by simp [c1, c2], Below.refl _ _⟩
theorem impl_allIn.calls (A0 : Option Addr) (c0 : Nat) (l0 : List Int) (a1 : Int) (a2 : Int) (r : Bool) (w : World) (hr0 : Kd.C (Kd.int .i64) w A0 l0.length l0) (hc0 : l0.length ≤ c0) (h : impl_allIn.f l0 a1 a2 = some r) :
  Calls Tryd.prog 126 #[.slice A0 l0.length c0, .int .i64 a1, .int .i64 a2] w fun e w' => e = .returned (.bool r) ∧ Below w.heap.size w w' := by
 have hW : Below w.heap.size w ((w.alloc (.cells #[.int .i64 a1] 2)).alloc (.cells #[.int .i64 a2] 2)) := zB (zB (Below.refl _ w) _) _
 have eg : ∀ args w, (callFunc 131 args).run Tryd.prog w = .ok (.enter 131 args) w := enters_fn Tryd.func131 (by kernel_rfl) rfl
 have hcon := containsFunc_any A0 c0 l0 131 #[.pointer (some ⟨w.heap.size, 0, none⟩), .pointer (some ⟨w.heap.size + 1, 0, none⟩)] (fun x => !decide (a1 ≤ x ∧ x ≤ a2)) _ eg
  (allIn_pred l0 a1 a2 w.heap.size ((w.alloc (.cells #[.int .i64 a1] 2)).alloc (.cells #[.int .i64 a2] 2)) (by simp) (by simp) (by simp)) (Kd.C_below hr0 hW)
 have hr : (!(l0.any fun x => !decide (a1 ≤ x ∧ x ≤ a2))) = r := by
  have := Option.some.inj h
  rw [← this, List.all_eq_not_any_not]
 clear h hr0 eg
 generalize (l0.any fun x => !decide (a1 ≤ x ∧ x ≤ a2)) = b at hcon hr
 subst hr
 replace hW := zA hW
 go_enter Tryd.func126, Tryd.ntmps126
 go_wp2_with fail
 refine hcon.mono ?_
 rintro e w' ⟨rfl, hb⟩
 replace hb := zA hb
 clear hcon
 go_wp2
 go_ret
 exact ⟨rfl, below_step hW.out hb.out⟩

/-! ### impl_IsRelation: function 124 -/
def impl_IsRelation.f (l0 : List Int) : Option (Bool) := if (l0.length : Int) ≤ 24 then ((impl_length_int64.f l0).bind fun t120 => ((impl_one.f t120).bind fun t121 => ((impl_allIn.f l0 0 (wrap64 (t121 - 1))).bind fun t122 => (some t122)))) else (some false)
set_option maxHeartbeats 8000000 in
set_option maxRecDepth 100000 in
theorem impl_IsRelation.calls (A0 : Option Addr) (c0 : Nat) (l0 : List Int) (r : Bool) (w : World) (hr0 : Kd.C (Kd.int .i64) w A0 l0.length l0) (hc0 : l0.length ≤ c0) (h : impl_IsRelation.f l0 = some r) :
  Calls Tryd.prog 124 #[.slice A0 l0.length c0] w fun e w' => e = .returned (.bool r) ∧ Below w.heap.size w w' := by
 have HR0 := zA hr0
 have HC0 := zA hc0
 clear hr0 hc0
 have HB := zA (Below.refl w.heap.size w)
 have H : (if (l0.length : Int) ≤ 24 then ((impl_length_int64.f l0).bind fun t120 => ((impl_one.f t120).bind fun t121 => ((impl_allIn.f l0 0 (wrap64 (t121 - 1))).bind fun t122 => (some t122)))) else (some false)) = some r := h
 clear h
 by_cases c2 : (l0.length : Int) ≤ 24
 ·rw [if_pos c2] at H
  have c2b0 : decide ((l0.length : Int) ≤ 24) = true := decide_eq_true c2
  have c2b1 : decide (l0.length ≤ 24) = true := decide_eq_true (by omega)
  clear c2
  obtain ⟨t120, A3, H⟩ := zb H
  try dsimp only at H
  obtain ⟨t121, A4, H⟩ := zb H
  try dsimp only at H
  obtain ⟨t122, A5, H⟩ := zb H
  try dsimp only at H
  obtain rfl := Option.some.inj H
  go_enter Tryd.func124, Tryd.ntmps124
  go_wp2_with (first | (go_at_call 82; (with_reducible refine (impl_length_int64.calls _ _ l0 t120 _ ?side1 ?side2 A3.out).mono ?_); (case side1 => exact zS HR0.out); (case side2 => exact HC0.out); rintro e w' ⟨rfl, ⟨nd, rfl⟩⟩) | (go_at_call 105; (with_reducible refine (impl_one.calls t120 t121 _ A4.out).mono ?_); rintro e w' ⟨rfl, ⟨nd, rfl⟩⟩) | (go_at_call 126; (with_reducible refine (impl_allIn.calls _ _ l0 0 (wrap64 (t121 - 1)) t122 _ ?side1 ?side2 A5.out).mono ?_); (case side1 => exact zS HR0.out); (case side2 => exact HC0.out); rintro e w6 ⟨rfl, hb⟩; replace HB := zA (below_step (zQ HB.out) hb); (try clear hb)))
  go_ret
  exact ⟨zr, zQ HB.out⟩
 rw [if_neg c2] at H
 have c2b0 : decide ((l0.length : Int) ≤ 24) = false := decide_eq_false c2
 have c2b1 : decide (l0.length ≤ 24) = false := decide_eq_false (by omega)
 clear c2
 obtain rfl := Option.some.inj H
 go_enter Tryd.func124, Tryd.ntmps124
 go_wp2
 go_ret
 exact ⟨zr, zQ HB.out⟩

/-! ### impl_IsAlphabet: function 100 -/
mutual
def impl_IsAlphabet.j0 : Nat → Bool → Int → List Int → Option (Bool)
 | 0, _, _, _ => none
 | k + 1, x22, x124000, x124001 => if x22 = true then (some false) else ((impl_converse.f k x124001).bind fun t127 => (impl_IsAlphabet.l0 k t127 (t127.length : Int) 0 x124000 x124001))
def impl_IsAlphabet.l0 : Nat → List Int → Int → Int → Int → List Int → Option (Bool)
 | 0, _, _, _, _, _ => none
 | k + 1, x25, x26, x27, x124000, x124001 => if x27 < x26 then (if 0 ≤ x27 then (if x27 < (x25.length : Int) then (if x27 < (x124001.length : Int) then (if (rd x25 x27) = (rd x124001 x27) then ((impl_has.f (rd x25 x27) x27).bind fun t132 => (if t132 = true then (impl_IsAlphabet.l0 k x25 x26 (wrap64 (x27 + 1)) x124000 x124001) else (some false))) else (some false)) else (none)) else (none)) else (none)) else (some true)
end
def impl_IsAlphabet.f (k : Nat) (a0_0 : Int) (l0_1 : List Int) : Option (Bool) := (impl_inRange.f a0_0 0 8).bind fun t124 => (if t124 = true then ((impl_length_int64.f l0_1).bind fun t125 => (if t125 = a0_0 then ((impl_IsRelation.f l0_1).bind fun t126 => (impl_IsAlphabet.j0 k (!t126) a0_0 l0_1)) else (impl_IsAlphabet.j0 k true a0_0 l0_1))) else (impl_IsAlphabet.j0 k true a0_0 l0_1))

def impl_IsAlphabet.T1 : Bool × List (List Nat × List Nat) := (true, [([], []), ([0], [0]), ([1], [1]), ([2], [2]), ([3, 2], [3]), ([4], [4]), ([5, 4], [4, 5]), ([6, 4, 4], [4, 6]), ([4], [4]), ([8, 4], [4, 8]), ([7, 9, 4], [4, 7, 9]), ([4, 10], [4, 10]), ([11, 7], [11]), ([12], [12]), ([13, 12], [12, 13]), ([14, 12, 12], [12, 14]), ([15, 12], [12, 15]), ([12, 16], [12, 16])])
def impl_IsAlphabet.B1 : List Nat := [0, 1, 3, 7, 15, 31, 63, 127, 31, 287, 1023, 2047, 4095, 8191, 16383, 32767, 65535, 131071]
theorem impl_IsAlphabet.tab1 : rtab .any (opsOf Tryd.f100 1) = impl_IsAlphabet.T1 := by kernel_rfl
theorem impl_IsAlphabet.bits1 : waitsOk impl_IsAlphabet.T1.2 impl_IsAlphabet.B1 = true := by kernel_rfl
set_option maxHeartbeats 8000000 in
set_option maxRecDepth 100000 in
theorem impl_IsAlphabet.calls (k : Nat) (a0_0 : Int) (A0_1 : Option Addr) (c0_1 : Nat) (l0_1 : List Int) (r : Bool) (w : World) (hr0_1 : Kd.C (Kd.int .i64) w A0_1 l0_1.length l0_1) (hc0_1 : l0_1.length ≤ c0_1) (hT : TabW w) (h : impl_IsAlphabet.f k a0_0 l0_1 = some r) :
  Calls Tryd.prog 100 #[.agg #[.int .i64 a0_0, .slice A0_1 l0_1.length c0_1]] w fun e w' => e = .returned (.bool r) ∧ Below w.heap.size w w' := by
 have hu26 := Tryd.underlying26
 have HT := zA hT
 clear hT
 have HR0_1 := zA hr0_1
 have HC0_1 := zA hc0_1
 clear hr0_1 hc0_1
 have HB := zA (Below.refl w.heap.size w)
 have H : ((impl_inRange.f a0_0 0 8).bind fun t124 => (if t124 = true then ((impl_length_int64.f l0_1).bind fun t125 => (if t125 = a0_0 then ((impl_IsRelation.f l0_1).bind fun t126 => (impl_IsAlphabet.j0 k (!t126) a0_0 l0_1)) else (impl_IsAlphabet.j0 k true a0_0 l0_1))) else (impl_IsAlphabet.j0 k true a0_0 l0_1))) = some r := h
 clear h
 have HC2 := zA H
 clear H
 go_enter Tryd.func100, Tryd.ntmps100
 go_upto_region 1 with (first | ((with_reducible refine gate_dst (N := 1) rfl ?_); refine box_event ?hg (N := 1) ?hd (cs := #[.int .i64 a0_0, .slice A0_1 l0_1.length c0_1]) (t := 26) ?hr ?_; (case hd => rfl); (case hg => rfl); (case hr => first | (go_simp; done) | (go_simp; rfl)); intro gb123 hg w3 hbox hb; have n0_ := zA (below_step (zQ HB.out) hb); have n1_ := zA (hbox); have n2_ := zA ((by rw [hg]; exact (below_size (zQ HB.out)) : w.heap.size ≤ gb123)); have n3_ := zA ((by rw [hg]; exact (below_size (zQ HB.out)) : w.heap.size ≤ gb123)); clear HB; have HB := n0_; have BK123 := n1_; have GW123 := n2_; have GE123 := n3_; clear n0_ n1_ n2_ n3_; clear hb hbox hg))
 (try simp only [Act.put, zL, zM, zN])
 go_cut [22] (fun v22 wc => ∃ (kq : Nat) (x22_1 : Bool), v22 = .bool x22_1 ∧ Aside0 (impl_IsAlphabet.j0 kq x22_1 a0_0 l0_1 = some r) ∧ Aside0 (kq ≤ k) ∧ Aside0 (wc.heap[gb123]? = some (.cells #[.int .i64 a0_0, (.slice A0_1 l0_1.length c0_1)] 26 (0, 0))) ∧ Aside0 (Below w.heap.size w wc))
 case first =>
  have H := HC2.out
  clear HC2
  obtain ⟨t124, A4, H⟩ := zb H
  try dsimp only at H
  by_cases c5 : t124 = true
  ·subst c5
   have H1 : ((impl_length_int64.f l0_1).bind fun t125 => (if t125 = a0_0 then ((impl_IsRelation.f l0_1).bind fun t126 => (impl_IsAlphabet.j0 k (!t126) a0_0 l0_1)) else (impl_IsAlphabet.j0 k true a0_0 l0_1))) = some r := by rw [if_pos rfl] at H; exact H
   clear H
   have H := H1
   clear H1
   obtain ⟨t125, A6, H⟩ := zb H
   try dsimp only at H
   by_cases c7 : t125 = a0_0
   ·rw [if_pos c7] at H
    have c7b0 : (t125 == a0_0) = true := beq_iff_eq.mpr c7
    have c7b1 : (t125 != a0_0) = false := bne_eq_false_iff_eq.mpr c7
    clear c7
    (first | rw [c7b0] | (simp only [i64_w, i32_w]; rw [c7b0]) | skip)
    obtain ⟨t126, A8, H⟩ := zb H
    try dsimp only at H
    have H' := zA H
    clear H
    try go_wp2
    replace BK123 := zA (zK BK123.out)
    replace HB := zA (zD HB.out)
    refine start_ (n := 18) (S := fun w' => w'.cell? ⟨gb123, 0, none⟩ = some (.int .i64 a0_0) ∧ w'.cell? ⟨gb123, 1, none⟩ = some (.slice A0_1 l0_1.length c0_1)) (ds := []) #[false, false, false, false, false, false, false, false, false, false, false, false, false, false, false, false, false, false] (by kernel_rfl) rfl rfl ⟨(blk_cell BK123.out 0).trans rfl, (blk_cell BK123.out 1).trans rfl⟩ (fun hHeld => ?_); refine with_tabW impl_IsAlphabet.tab1 impl_IsAlphabet.bits1 (fun HT_ HW_ => ?_)
    generalize w3.drew = w9 at BK123 HB hHeld ⊢
    refine zp 0 (some 5) #[true, false, false, false, false, false, false, false, false, false, false, false, false, false, false, false, false, false] HT_.out ?_
    refine zc 1 (some 6) #[true, true, false, false, false, false, false, false, false, false, false, false, false, false, false, false, false, false] HT_.out HW_.out hHeld ?_
    refine one_ (i := 2) (N := some 7) #[true, true, true, false, false, false, false, false, false, false, false, false, false, false, false, false, false, false] rfl rfl (one_of HT_.out (by kernel_rfl)) (by decide) (fun K hK => ?_)
    refine goes_ Tryd.func111 (by kernel_rfl) rfl #[.int .i64 a0_0, .int .i64 0, .int .i64 8] (by rfl) rfl rfl (by (try simp only [List.map_toArray, List.map_cons, List.map_nil]); first | done | rfl | (simp only [List.length_drop, List.length_take]; rfl)) ?_
    with_reducible refine (impl_inRange.calls a0_0 0 8 true _ A4.out).mono ?_
    rintro e w' ⟨rfl, ⟨nd, rfl⟩⟩
    refine ⟨_, rfl, ?_⟩
    refine hK.out _ _ ⟨(blk_cell BK123.out 0).trans rfl, (blk_cell BK123.out 1).trans rfl⟩ (fun hHeld => ?_)
    clear hK K
    refine norm_ (a' := ?_) ?_ ?_
    rotate_left
    ·show Act.put _ (some 7) _ = _
     simp only [Act.put, zL, zM, zN, i64_w, i32_w]
     rfl
    refine zp 3 (some 8) #[true, true, true, true, false, false, false, false, false, false, false, false, false, false, false, false, false, false] HT_.out ?_
    refine zp 4 (some 9) #[true, true, true, true, true, false, false, false, false, false, false, false, false, false, false, false, false, false] HT_.out ?_
    refine zp 5 (some 10) #[true, true, true, true, true, true, false, false, false, false, false, false, false, false, false, false, false, false] HT_.out ?_
    refine zp 8 (some 13) #[true, true, true, true, true, true, false, false, true, false, false, false, false, false, false, false, false, false] HT_.out ?_
    refine zc 6 (some 11) #[true, true, true, true, true, true, true, false, true, false, false, false, false, false, false, false, false, false] HT_.out HW_.out hHeld ?_
    refine zc 9 (some 14) #[true, true, true, true, true, true, true, false, true, true, false, false, false, false, false, false, false, false] HT_.out HW_.out hHeld ?_
    refine one_ (i := 7) (N := some 12) #[true, true, true, true, true, true, true, true, true, true, false, false, false, false, false, false, false, false] rfl rfl (one_of HT_.out (by kernel_rfl)) (by decide) (fun K hK => ?_)
    refine goes_ Tryd.func82 (by kernel_rfl) rfl #[.slice A0_1 l0_1.length c0_1] (by rfl) rfl rfl (by (try simp only [List.map_toArray, List.map_cons, List.map_nil]); first | done | rfl | (simp only [List.length_drop, List.length_take]; rfl)) ?_
    with_reducible refine (impl_length_int64.calls _ _ l0_1 t125 _ ?side1 ?side2 A6.out).mono ?_
    (case side1 => exact zS (Kd.C_below HR0_1.out (zT HB.out GE123.out)))
    (case side2 => exact HC0_1.out)
    rintro e w' ⟨rfl, ⟨nd, rfl⟩⟩
    refine ⟨_, rfl, ?_⟩
    refine hK.out _ _ ⟨(blk_cell BK123.out 0).trans rfl, (blk_cell BK123.out 1).trans rfl⟩ (fun hHeld => ?_)
    clear hK K
    refine norm_ (a' := ?_) ?_ ?_
    rotate_left
    ·show Act.put _ (some 12) _ = _
     simp only [Act.put, zL, zM, zN, i64_w, i32_w]
     rfl
    refine zp 10 (some 15) #[true, true, true, true, true, true, true, true, true, true, true, false, false, false, false, false, false, false] HT_.out ?_
    refine zp 11 (some 16) #[true, true, true, true, true, true, true, true, true, true, true, true, false, false, false, false, false, false] HT_.out ?_
    refine zp 12 (some 17) #[true, true, true, true, true, true, true, true, true, true, true, true, true, false, false, false, false, false] HT_.out ?_
    refine zp 13 (some 18) #[true, true, true, true, true, true, true, true, true, true, true, true, true, true, false, false, false, false] HT_.out ?_
    refine zc 14 (some 19) #[true, true, true, true, true, true, true, true, true, true, true, true, true, true, true, false, false, false] HT_.out HW_.out hHeld ?_
    refine one_ (i := 15) (N := some 20) #[true, true, true, true, true, true, true, true, true, true, true, true, true, true, true, true, false, false] rfl rfl (one_of HT_.out (by kernel_rfl)) (by decide) (fun K hK => ?_)
    refine goes_ Tryd.func124 (by kernel_rfl) rfl #[.slice A0_1 l0_1.length c0_1] (by rfl) rfl rfl (by (try simp only [List.map_toArray, List.map_cons, List.map_nil]); first | done | rfl | (simp only [List.length_drop, List.length_take]; rfl)) ?_
    with_reducible refine (impl_IsRelation.calls _ _ l0_1 t126 _ ?side1 ?side2 A8.out).mono ?_
    (case side1 => exact zS (Kd.C_below HR0_1.out (zT HB.out GE123.out)))
    (case side2 => exact HC0_1.out)
    rintro e w10 ⟨rfl, hb⟩
    refine ⟨_, rfl, ?_⟩
    replace BK123 := zA (blk_below (g := gb123) (o := .cells #[.int .i64 a0_0, .slice A0_1 l0_1.length c0_1] 26 (0, 0)) (zR BK123.out) hb)
    replace HB := zA (below_step (zT HB.out GE123.out) hb)
    (try clear hb)
    (try clear hb2)
    (try clear hk)
    (try clear hi)
    (try clear hgw)
    refine hK.out _ _ ⟨(blk_cell BK123.out 0).trans rfl, (blk_cell BK123.out 1).trans rfl⟩ (fun hHeld => ?_)
    clear hK K
    refine norm_ (a' := ?_) ?_ ?_
    rotate_left
    ·show Act.put _ (some 20) _ = _
     simp only [Act.put, zL, zM, zN, i64_w, i32_w]
     rfl
    refine zp 16 (some 21) #[true, true, true, true, true, true, true, true, true, true, true, true, true, true, true, true, true, false] HT_.out ?_
    refine zp 17 (some 22) #[true, true, true, true, true, true, true, true, true, true, true, true, true, true, true, true, true, true] HT_.out ?_
    refine done_ (done_of HT_.out (by kernel_rfl)) ?_
    try go_wp2
    go_meet
    case rel => exact ⟨_, (!t126), (by first | rfl | (simp; done) | (simp [*]; done)), H', ⟨by first | omega | exact Nat.le_refl _⟩, ⟨by (with_reducible repeat (first | refine zJ ?_ _ | refine zK ?_ | refine zI ?_ _)); exact BK123.out⟩, ⟨zT HB.out GE123.out⟩⟩
   rw [if_neg c7] at H
   have c7b0 : (t125 == a0_0) = false := beq_eq_false_iff_ne.mpr c7
   have c7b1 : (t125 != a0_0) = true := bne_iff_ne.mpr c7
   (first | rw [c7b0] | (simp only [i64_w, i32_w]; rw [c7b0]) | skip)
   have H' := zA H
   clear H
   try go_wp2
   replace BK123 := zA (zK BK123.out)
   replace HB := zA (zD HB.out)
   refine start_ (n := 18) (S := fun w' => w'.cell? ⟨gb123, 0, none⟩ = some (.int .i64 a0_0) ∧ w'.cell? ⟨gb123, 1, none⟩ = some (.slice A0_1 l0_1.length c0_1)) (ds := []) #[false, false, false, false, false, false, false, false, false, false, false, false, false, false, false, false, false, false] (by kernel_rfl) rfl rfl ⟨(blk_cell BK123.out 0).trans rfl, (blk_cell BK123.out 1).trans rfl⟩ (fun hHeld => ?_); refine with_tabW impl_IsAlphabet.tab1 impl_IsAlphabet.bits1 (fun HT_ HW_ => ?_)
   generalize w3.drew = w11 at BK123 HB hHeld ⊢
   refine zp 0 (some 5) #[true, false, false, false, false, false, false, false, false, false, false, false, false, false, false, false, false, false] HT_.out ?_
   refine zc 1 (some 6) #[true, true, false, false, false, false, false, false, false, false, false, false, false, false, false, false, false, false] HT_.out HW_.out hHeld ?_
   refine one_ (i := 2) (N := some 7) #[true, true, true, false, false, false, false, false, false, false, false, false, false, false, false, false, false, false] rfl rfl (one_of HT_.out (by kernel_rfl)) (by decide) (fun K hK => ?_)
   refine goes_ Tryd.func111 (by kernel_rfl) rfl #[.int .i64 a0_0, .int .i64 0, .int .i64 8] (by rfl) rfl rfl (by (try simp only [List.map_toArray, List.map_cons, List.map_nil]); first | done | rfl | (simp only [List.length_drop, List.length_take]; rfl)) ?_
   with_reducible refine (impl_inRange.calls a0_0 0 8 true _ A4.out).mono ?_
   rintro e w' ⟨rfl, ⟨nd, rfl⟩⟩
   refine ⟨_, rfl, ?_⟩
   refine hK.out _ _ ⟨(blk_cell BK123.out 0).trans rfl, (blk_cell BK123.out 1).trans rfl⟩ (fun hHeld => ?_)
   clear hK K
   refine norm_ (a' := ?_) ?_ ?_
   rotate_left
   ·show Act.put _ (some 7) _ = _
    simp only [Act.put, zL, zM, zN, i64_w, i32_w]
    rfl
   refine zp 3 (some 8) #[true, true, true, true, false, false, false, false, false, false, false, false, false, false, false, false, false, false] HT_.out ?_
   refine zp 4 (some 9) #[true, true, true, true, true, false, false, false, false, false, false, false, false, false, false, false, false, false] HT_.out ?_
   refine zp 5 (some 10) #[true, true, true, true, true, true, false, false, false, false, false, false, false, false, false, false, false, false] HT_.out ?_
   refine zp 8 (some 13) #[true, true, true, true, true, true, false, false, true, false, false, false, false, false, false, false, false, false] HT_.out ?_
   refine zc 6 (some 11) #[true, true, true, true, true, true, true, false, true, false, false, false, false, false, false, false, false, false] HT_.out HW_.out hHeld ?_
   refine zc 9 (some 14) #[true, true, true, true, true, true, true, false, true, true, false, false, false, false, false, false, false, false] HT_.out HW_.out hHeld ?_
   refine one_ (i := 7) (N := some 12) #[true, true, true, true, true, true, true, true, true, true, false, false, false, false, false, false, false, false] rfl rfl (one_of HT_.out (by kernel_rfl)) (by decide) (fun K hK => ?_)
   refine goes_ Tryd.func82 (by kernel_rfl) rfl #[.slice A0_1 l0_1.length c0_1] (by rfl) rfl rfl (by (try simp only [List.map_toArray, List.map_cons, List.map_nil]); first | done | rfl | (simp only [List.length_drop, List.length_take]; rfl)) ?_
   with_reducible refine (impl_length_int64.calls _ _ l0_1 t125 _ ?side1 ?side2 A6.out).mono ?_
   (case side1 => exact zS (Kd.C_below HR0_1.out (zT HB.out GE123.out)))
   (case side2 => exact HC0_1.out)
   rintro e w' ⟨rfl, ⟨nd, rfl⟩⟩
   refine ⟨_, rfl, ?_⟩
   refine hK.out _ _ ⟨(blk_cell BK123.out 0).trans rfl, (blk_cell BK123.out 1).trans rfl⟩ (fun hHeld => ?_)
   clear hK K
   refine norm_ (a' := ?_) ?_ ?_
   rotate_left
   ·show Act.put _ (some 12) _ = _
    simp only [Act.put, zL, zM, zN, i64_w, i32_w]
    rfl
   refine zp 10 (some 15) #[true, true, true, true, true, true, true, true, true, true, true, false, false, false, false, false, false, false] HT_.out ?_
   refine zp 11 (some 16) #[true, true, true, true, true, true, true, true, true, true, true, true, false, false, false, false, false, false] HT_.out ?_
   refine zp 12 (some 17) #[true, true, true, true, true, true, true, true, true, true, true, true, true, false, false, false, false, false] HT_.out ?_
   refine zu 13 (some 18) #[true, true, true, true, true, true, true, true, true, true, true, true, true, true, false, false, false, false] HT_.out ?_
   refine zu 14 (some 19) #[true, true, true, true, true, true, true, true, true, true, true, true, true, true, true, false, false, false] HT_.out ?_
   refine zu 15 (some 20) #[true, true, true, true, true, true, true, true, true, true, true, true, true, true, true, true, false, false] HT_.out ?_
   refine zu 16 (some 21) #[true, true, true, true, true, true, true, true, true, true, true, true, true, true, true, true, true, false] HT_.out ?_
   refine zp 17 (some 22) #[true, true, true, true, true, true, true, true, true, true, true, true, true, true, true, true, true, true] HT_.out ?_
   refine done_ (done_of HT_.out (by kernel_rfl)) ?_
   try go_wp2
   go_meet
   case rel => exact ⟨_, (true), (by first | rfl | (simp; done) | (simp [*]; done)), H', ⟨by first | omega | exact Nat.le_refl _⟩, ⟨by (with_reducible repeat (first | refine zJ ?_ _ | refine zK ?_ | refine zI ?_ _)); exact BK123.out⟩, ⟨zT HB.out GE123.out⟩⟩
  replace c5 := Bool.eq_false_iff.mpr c5
  subst c5
  have H1 : (impl_IsAlphabet.j0 k true a0_0 l0_1) = some r := by rw [if_neg (show ¬ (false = true) by decide)] at H; exact H
  clear H
  have H := H1
  clear H1
  have H' := zA H
  clear H
  try go_wp2
  replace BK123 := zA (zK BK123.out)
  replace HB := zA (zD HB.out)
  refine start_ (n := 18) (S := fun w' => w'.cell? ⟨gb123, 0, none⟩ = some (.int .i64 a0_0) ∧ w'.cell? ⟨gb123, 1, none⟩ = some (.slice A0_1 l0_1.length c0_1)) (ds := []) #[false, false, false, false, false, false, false, false, false, false, false, false, false, false, false, false, false, false] (by kernel_rfl) rfl rfl ⟨(blk_cell BK123.out 0).trans rfl, (blk_cell BK123.out 1).trans rfl⟩ (fun hHeld => ?_); refine with_tabW impl_IsAlphabet.tab1 impl_IsAlphabet.bits1 (fun HT_ HW_ => ?_)
  generalize w3.drew = w12 at BK123 HB hHeld ⊢
  refine zp 0 (some 5) #[true, false, false, false, false, false, false, false, false, false, false, false, false, false, false, false, false, false] HT_.out ?_
  refine zc 1 (some 6) #[true, true, false, false, false, false, false, false, false, false, false, false, false, false, false, false, false, false] HT_.out HW_.out hHeld ?_
  refine one_ (i := 2) (N := some 7) #[true, true, true, false, false, false, false, false, false, false, false, false, false, false, false, false, false, false] rfl rfl (one_of HT_.out (by kernel_rfl)) (by decide) (fun K hK => ?_)
  refine goes_ Tryd.func111 (by kernel_rfl) rfl #[.int .i64 a0_0, .int .i64 0, .int .i64 8] (by rfl) rfl rfl (by (try simp only [List.map_toArray, List.map_cons, List.map_nil]); first | done | rfl | (simp only [List.length_drop, List.length_take]; rfl)) ?_
  with_reducible refine (impl_inRange.calls a0_0 0 8 false _ A4.out).mono ?_
  rintro e w' ⟨rfl, ⟨nd, rfl⟩⟩
  refine ⟨_, rfl, ?_⟩
  refine hK.out _ _ ⟨(blk_cell BK123.out 0).trans rfl, (blk_cell BK123.out 1).trans rfl⟩ (fun hHeld => ?_)
  clear hK K
  refine norm_ (a' := ?_) ?_ ?_
  rotate_left
  ·show Act.put _ (some 7) _ = _
   simp only [Act.put, zL, zM, zN, i64_w, i32_w]
   rfl
  refine zp 3 (some 8) #[true, true, true, true, false, false, false, false, false, false, false, false, false, false, false, false, false, false] HT_.out ?_
  refine zp 4 (some 9) #[true, true, true, true, true, false, false, false, false, false, false, false, false, false, false, false, false, false] HT_.out ?_
  refine zu 5 (some 10) #[true, true, true, true, true, true, false, false, false, false, false, false, false, false, false, false, false, false] HT_.out ?_
  refine zu 6 (some 11) #[true, true, true, true, true, true, true, false, false, false, false, false, false, false, false, false, false, false] HT_.out ?_
  refine zu 7 (some 12) #[true, true, true, true, true, true, true, true, false, false, false, false, false, false, false, false, false, false] HT_.out ?_
  refine zu 8 (some 13) #[true, true, true, true, true, true, true, true, true, false, false, false, false, false, false, false, false, false] HT_.out ?_
  refine zu 9 (some 14) #[true, true, true, true, true, true, true, true, true, true, false, false, false, false, false, false, false, false] HT_.out ?_
  refine zu 10 (some 15) #[true, true, true, true, true, true, true, true, true, true, true, false, false, false, false, false, false, false] HT_.out ?_
  refine zp 11 (some 16) #[true, true, true, true, true, true, true, true, true, true, true, true, false, false, false, false, false, false] HT_.out ?_
  refine zp 12 (some 17) #[true, true, true, true, true, true, true, true, true, true, true, true, true, false, false, false, false, false] HT_.out ?_
  refine zu 13 (some 18) #[true, true, true, true, true, true, true, true, true, true, true, true, true, true, false, false, false, false] HT_.out ?_
  refine zu 14 (some 19) #[true, true, true, true, true, true, true, true, true, true, true, true, true, true, true, false, false, false] HT_.out ?_
  refine zu 15 (some 20) #[true, true, true, true, true, true, true, true, true, true, true, true, true, true, true, true, false, false] HT_.out ?_
  refine zu 16 (some 21) #[true, true, true, true, true, true, true, true, true, true, true, true, true, true, true, true, true, false] HT_.out ?_
  refine zp 17 (some 22) #[true, true, true, true, true, true, true, true, true, true, true, true, true, true, true, true, true, true] HT_.out ?_
  refine done_ (done_of HT_.out (by kernel_rfl)) ?_
  try go_wp2
  go_meet
  case rel => exact ⟨_, (true), (by first | rfl | (simp; done) | (simp [*]; done)), H', ⟨by first | omega | exact Nat.le_refl _⟩, ⟨by (with_reducible repeat (first | refine zJ ?_ _ | refine zK ?_ | refine zI ?_ _)); exact BK123.out⟩, ⟨zT HB.out GE123.out⟩⟩
 case rest =>
  clear HC2
  try clear c1
  try clear p2
  try clear c5
  try clear c7
  try clear c7b0
  try clear c7b1
  try clear c8
  try clear c10
  try clear c11
  try clear c12
  obtain ⟨kq, x22_1, rfl, HA, HJ1, BK123, HB⟩ := hcut
  cases kq with
  | zero => exact absurd HA.out (by simp [impl_IsAlphabet.j0])
  | succ kj1 =>
   have H := HA.out
   clear HA
   simp only [impl_IsAlphabet.j0] at H
   by_cases c13 : x22_1 = true
   ·subst c13
    have H1 : (some false) = some r := by rw [if_pos rfl] at H; exact H
    clear H
    have H := H1
    clear H1
    obtain rfl := Option.some.inj H
    go_wp2
    go_ret
    exact ⟨zr, zT HB.out GE123.out⟩
   replace c13 := Bool.eq_false_iff.mpr c13
   subst c13
   have H1 : ((impl_converse.f kj1 l0_1).bind fun t127 => (impl_IsAlphabet.l0 kj1 t127 (t127.length : Int) 0 a0_0 l0_1)) = some r := by rw [if_neg (show ¬ (false = true) by decide)] at H; exact H
   clear H
   have H := H1
   clear H1
   obtain ⟨t127, A14, H⟩ := zb H
   try dsimp only at H
   have H' := zA H
   clear H
   have hcz15_0 : wc.cell? ⟨gb123, 0, none⟩ = some (.int .i64 a0_0) := (blk_cell BK123.out 0).trans rfl
   have hcz15_1 : wc.cell? ⟨gb123, 1, none⟩ = some (.slice A0_1 l0_1.length c0_1) := (blk_cell BK123.out 1).trans rfl
   have hfz15_0 := blk_frozen BK123.out 0
   have hfz15_1 := blk_frozen BK123.out 1
   go_wp2_with (first | ((with_reducible refine gate_callee (f := 85) rfl ?_); refine zO (some 25) Tryd.func85 #[.slice A0_1 l0_1.length c0_1] ?_; (with_reducible refine (impl_converse.calls kj1 _ _ l0_1 t127 _ ?side1 ?side2 ?side3 A14.out).mono ?_); (case side1 => exact zS (Kd.C_below HR0_1.out HB.out)); (case side2 => exact HC0_1.out); (case side3 => exact TabW.below HT.out (zT HB.out GE123.out)); rintro e w16 ⟨v128, rfl, ho0, hb⟩; refine ⟨_, rfl, ?_⟩; have HO129 := zA (Kd.R_lower ho0 (below_size (zT HB.out GE123.out))); replace BK123 := zA (blk_below (g := gb123) (o := .cells #[.int .i64 a0_0, .slice A0_1 l0_1.length c0_1] 26 (0, 0)) (zR BK123.out) hb); replace HB := zA (below_step (zT HB.out GE123.out) hb); (try clear hb); (try clear ho0); obtain ⟨Ao17, co17, eo17⟩ := Kd.R_slice HO129.out; subst eo17))
   go_loopg [27] kj1 (fun kq v27 w' => ∃ (x27_2 : Int), v27 = .int .i64 x27_2 ∧ Aside0 (impl_IsAlphabet.l0 kq t127 (t127.length : Int) x27_2 a0_0 l0_1 = some r) ∧ Aside0 (kq ≤ kj1) ∧ Aside0 (Kd.R (Kd.int .i64) 2 w' w.heap.size (fun _ => True) (.slice Ao17 t127.length co17) t127) ∧ Aside0 (w'.heap[gb123]? = some (.cells #[.int .i64 a0_0, (.slice A0_1 l0_1.length c0_1)] 26 (0, 0))) ∧ Aside0 (Below w.heap.size w w'))
   case atStart => exact ⟨(0), (by first | rfl | (simp; done) | (simp [*]; done)), H', ⟨Nat.le_refl _⟩, ⟨by (with_reducible repeat (first | apply zF | apply zG | apply zH)); exact HO129.out⟩, ⟨by (with_reducible repeat (first | refine zJ ?_ _ | refine zK ?_ | refine zI ?_ _)); exact BK123.out⟩, ⟨zT HB.out GE123.out⟩⟩
   case round =>
    clear H'
    try clear c1
    try clear p2
    try clear c5
    try clear c7
    try clear c7b0
    try clear c7b1
    try clear c8
    try clear c10
    try clear c11
    try clear c12
    try clear c13
    try clear hcz15_0
    try clear hcz15_1
    try clear hfz15_0
    try clear hfz15_1
    try clear p2
    obtain ⟨x27_2, rfl, HA, HK2, HO_25, BK123, HB⟩ := hrel
    cases gk with
    | zero => exact absurd HA.out (by simp [impl_IsAlphabet.l0])
    | succ k2 =>
     have H := HA.out
     clear HA
     simp only [impl_IsAlphabet.l0] at H
     by_cases c18 : x27_2 < (t127.length : Int)
     ·rw [if_pos c18] at H
      have c18b0 : decide (x27_2 < (t127.length : Int)) = true := decide_eq_true c18
      clear c18
      by_cases c19 : 0 ≤ x27_2
      ·rw [if_pos c19] at H
       have c19b0 : decide (0 ≤ x27_2) = true := decide_eq_true c19
       clear c19
       by_cases c20 : x27_2 < (t127.length : Int)
       ·rw [if_pos c20] at H
        have c20b0 : decide (x27_2 < (t127.length : Int)) = true := decide_eq_true c20
        clear c20
        by_cases c21 : x27_2 < (l0_1.length : Int)
        ·rw [if_pos c21] at H
         have c21b0 : decide (x27_2 < (l0_1.length : Int)) = true := decide_eq_true c21
         clear c21
         by_cases c22 : (rd t127 x27_2) = (rd l0_1 x27_2)
         ·rw [if_pos c22] at H
          have c22b0 : ((rd t127 x27_2) == (rd l0_1 x27_2)) = true := beq_iff_eq.mpr c22
          have c22b1 : ((rd t127 x27_2) != (rd l0_1 x27_2)) = false := bne_eq_false_iff_eq.mpr c22
          clear c22
          obtain ⟨t132, A23, H⟩ := zb H
          try dsimp only at H
          by_cases c24 : t132 = true
          ·subst c24
           have H1 : (impl_IsAlphabet.l0 k2 t127 (t127.length : Int) (wrap64 (x27_2 + 1)) a0_0 l0_1) = some r := by rw [if_pos rfl] at H; exact H
           clear H
           have H := H1
           clear H1
           have H' := zA H
           clear H
           have p130 : 0 ≤ (x27_2 : Int) := zd
           have q130 : x27_2 < (t127.length : Int) := zd
           obtain ⟨ad130, e130, hx130_0⟩ := Kd.at_int (Kd.R_reads' HO_25.out).2.2 x27_2 p130 q130
           cases e130
           replace p130 := eq_true p130
           replace q130 := eq_true q130
           have hcz25_0 : wr.cell? ⟨gb123, 0, none⟩ = some (.int .i64 a0_0) := (blk_cell BK123.out 0).trans rfl
           have hcz25_1 : wr.cell? ⟨gb123, 1, none⟩ = some (.slice A0_1 l0_1.length c0_1) := (blk_cell BK123.out 1).trans rfl
           have hfz25_0 := blk_frozen BK123.out 0
           have hfz25_1 := blk_frozen BK123.out 1
           have p131 : 0 ≤ (x27_2 : Int) := zd
           have q131 : x27_2 < (l0_1.length : Int) := zd
           obtain ⟨ad131, e131, hx131_0⟩ := Kd.at_int HR0_1.out x27_2 p131 q131
           cases e131
           replace hx131_0 := (HB.out.cell (World.block_lt_of_cell? w _ hx131_0)).trans hx131_0
           replace p131 := eq_true p131
           replace q131 := eq_true q131
           go_wp2_with (first | (go_at_call 104; (with_reducible refine (impl_has.calls (rd t127 x27_2) x27_2 true _ A23.out).mono ?_); rintro e w' ⟨rfl, ⟨nd, rfl⟩⟩))
           go_roundg k2
           case measure => have := HJ1.out; have := HK2.out; omega
           case rel => exact ⟨(wrap64 (x27_2 + 1)), (by first | rfl | (simp; done) | (simp [*]; done)), H', ⟨by have := HJ1.out; have := HK2.out; omega⟩, ⟨by (with_reducible repeat (first | apply zF | apply zG | apply zH)); exact HO_25.out⟩, ⟨by (with_reducible repeat (first | refine zJ ?_ _ | refine zK ?_ | refine zI ?_ _)); exact BK123.out⟩, ⟨zT HB.out GE123.out⟩⟩
          replace c24 := Bool.eq_false_iff.mpr c24
          subst c24
          have H1 : (some false) = some r := by rw [if_neg (show ¬ (false = true) by decide)] at H; exact H
          clear H
          have H := H1
          clear H1
          obtain rfl := Option.some.inj H
          have p130 : 0 ≤ (x27_2 : Int) := zd
          have q130 : x27_2 < (t127.length : Int) := zd
          obtain ⟨ad130, e130, hx130_0⟩ := Kd.at_int (Kd.R_reads' HO_25.out).2.2 x27_2 p130 q130
          cases e130
          replace p130 := eq_true p130
          replace q130 := eq_true q130
          have hcz26_0 : wr.cell? ⟨gb123, 0, none⟩ = some (.int .i64 a0_0) := (blk_cell BK123.out 0).trans rfl
          have hcz26_1 : wr.cell? ⟨gb123, 1, none⟩ = some (.slice A0_1 l0_1.length c0_1) := (blk_cell BK123.out 1).trans rfl
          have hfz26_0 := blk_frozen BK123.out 0
          have hfz26_1 := blk_frozen BK123.out 1
          have p131 : 0 ≤ (x27_2 : Int) := zd
          have q131 : x27_2 < (l0_1.length : Int) := zd
          obtain ⟨ad131, e131, hx131_0⟩ := Kd.at_int HR0_1.out x27_2 p131 q131
          cases e131
          replace hx131_0 := (HB.out.cell (World.block_lt_of_cell? w _ hx131_0)).trans hx131_0
          replace p131 := eq_true p131
          replace q131 := eq_true q131
          go_wp2_with (first | (go_at_call 104; (with_reducible refine (impl_has.calls (rd t127 x27_2) x27_2 false _ A23.out).mono ?_); rintro e w' ⟨rfl, ⟨nd, rfl⟩⟩))
          go_ret
          exact ⟨zr, zT HB.out GE123.out⟩
         rw [if_neg c22] at H
         have c22b0 : ((rd t127 x27_2) == (rd l0_1 x27_2)) = false := beq_eq_false_iff_ne.mpr c22
         have c22b1 : ((rd t127 x27_2) != (rd l0_1 x27_2)) = true := bne_iff_ne.mpr c22
         obtain rfl := Option.some.inj H
         have p130 : 0 ≤ (x27_2 : Int) := zd
         have q130 : x27_2 < (t127.length : Int) := zd
         obtain ⟨ad130, e130, hx130_0⟩ := Kd.at_int (Kd.R_reads' HO_25.out).2.2 x27_2 p130 q130
         cases e130
         replace p130 := eq_true p130
         replace q130 := eq_true q130
         have hcz27_0 : wr.cell? ⟨gb123, 0, none⟩ = some (.int .i64 a0_0) := (blk_cell BK123.out 0).trans rfl
         have hcz27_1 : wr.cell? ⟨gb123, 1, none⟩ = some (.slice A0_1 l0_1.length c0_1) := (blk_cell BK123.out 1).trans rfl
         have hfz27_0 := blk_frozen BK123.out 0
         have hfz27_1 := blk_frozen BK123.out 1
         have p131 : 0 ≤ (x27_2 : Int) := zd
         have q131 : x27_2 < (l0_1.length : Int) := zd
         obtain ⟨ad131, e131, hx131_0⟩ := Kd.at_int HR0_1.out x27_2 p131 q131
         cases e131
         replace hx131_0 := (HB.out.cell (World.block_lt_of_cell? w _ hx131_0)).trans hx131_0
         replace p131 := eq_true p131
         replace q131 := eq_true q131
         go_wp2
         go_ret
         exact ⟨zr, zT HB.out GE123.out⟩
        rw [if_neg c21] at H
        exact absurd H (by simp)
       rw [if_neg c20] at H
       exact absurd H (by simp)
      rw [if_neg c19] at H
      exact absurd H (by simp)
     rw [if_neg c18] at H
     have c18b0 : decide (x27_2 < (t127.length : Int)) = false := decide_eq_false c18
     clear c18
     obtain rfl := Option.some.inj H
     go_wp2
     go_ret
     exact ⟨zr, zT HB.out GE123.out⟩

-- NOT PRINTED: function 125 (slices_IndexFunc_int64_int64_125)

-- NOT PRINTED: function 101 (slices_ContainsFunc_int64_int64_101)

/-! ### impl_isWord: function 103 -/
def impl_isWord.f (a0_0 : Int) (l0_1 : List Int) (l1 : List Int) : Option (Bool) := if (l1.length : Int) ≤ 24 then ((impl_allIn.f l1 0 (wrap64 (a0_0 - 1))).bind fun t134 => (some t134)) else (some false)
set_option maxHeartbeats 8000000 in
set_option maxRecDepth 100000 in
theorem impl_isWord.calls (a0_0 : Int) (A0_1 : Option Addr) (c0_1 : Nat) (l0_1 : List Int) (A1 : Option Addr) (c1 : Nat) (l1 : List Int) (r : Bool) (w : World) (hr0_1 : Kd.C (Kd.int .i64) w A0_1 l0_1.length l0_1) (hc0_1 : l0_1.length ≤ c0_1) (hr1 : Kd.C (Kd.int .i64) w A1 l1.length l1) (hc1 : l1.length ≤ c1) (h : impl_isWord.f a0_0 l0_1 l1 = some r) :
  Calls Tryd.prog 103 #[.agg #[.int .i64 a0_0, .slice A0_1 l0_1.length c0_1], .slice A1 l1.length c1] w fun e w' => e = .returned (.bool r) ∧ Below w.heap.size w w' := by
 have hu26 := Tryd.underlying26
 have HR0_1 := zA hr0_1
 have HC0_1 := zA hc0_1
 clear hr0_1 hc0_1
 have HR1 := zA hr1
 have HC1 := zA hc1
 clear hr1 hc1
 have HB := zA (Below.refl w.heap.size w)
 have H : (if (l1.length : Int) ≤ 24 then ((impl_allIn.f l1 0 (wrap64 (a0_0 - 1))).bind fun t134 => (some t134)) else (some false)) = some r := h
 clear h
 by_cases c3 : (l1.length : Int) ≤ 24
 ·rw [if_pos c3] at H
  have c3b0 : decide ((l1.length : Int) ≤ 24) = true := decide_eq_true c3
  have c3b1 : decide (l1.length ≤ 24) = true := decide_eq_true (by omega)
  clear c3
  obtain ⟨t134, A4, H⟩ := zb H
  try dsimp only at H
  obtain rfl := Option.some.inj H
  go_enter Tryd.func103, Tryd.ntmps103
  go_wp2_with (first | ((with_reducible refine gate_dst (N := 2) rfl ?_); refine box_event ?hg (N := 2) ?hd (cs := #[.int .i64 a0_0, .slice A0_1 l0_1.length c0_1]) (t := 26) ?hr ?_; (case hd => rfl); (case hg => rfl); (case hr => first | (go_simp; done) | (go_simp; rfl)); intro gb133 hg w5 hbox hb; have BK133 := zA (hbox); have GW133 := zA ((by rw [hg]; exact (below_size (zQ HB.out)) : w.heap.size ≤ gb133)); have GE133 := zA ((by rw [hg]; exact (below_size (zQ HB.out)) : w.heap.size ≤ gb133)); replace HB := zA (below_step (zQ HB.out) hb); clear hb hbox hg; have hcz6_0 : w5.cell? ⟨gb133, 0, none⟩ = some (.int .i64 a0_0) := (blk_cell BK133.out 0).trans rfl; have hcz6_1 : w5.cell? ⟨gb133, 1, none⟩ = some (.slice A0_1 l0_1.length c0_1) := (blk_cell BK133.out 1).trans rfl; have hfz6_0 := blk_frozen BK133.out 0; have hfz6_1 := blk_frozen BK133.out 1) | (go_at_call 126; (with_reducible refine (impl_allIn.calls _ _ l1 0 (wrap64 (a0_0 - 1)) t134 _ ?side1 ?side2 A4.out).mono ?_); (case side1 => exact zS (Kd.C_below HR1.out HB.out)); (case side2 => exact HC1.out); rintro e w7 ⟨rfl, hb⟩; replace BK133 := zA (blk_below (g := gb133) (o := .cells #[.int .i64 a0_0, .slice A0_1 l0_1.length c0_1] 26 (0, 0)) (zR BK133.out) hb); replace HB := zA (below_step (zT HB.out GE133.out) hb); (try clear hb)))
  go_ret
  exact ⟨zr, zT HB.out GE133.out⟩
 rw [if_neg c3] at H
 have c3b0 : decide ((l1.length : Int) ≤ 24) = false := decide_eq_false c3
 have c3b1 : decide (l1.length ≤ 24) = false := decide_eq_false (by omega)
 clear c3
 obtain rfl := Option.some.inj H
 go_enter Tryd.func103, Tryd.ntmps103
 go_wp2_with (first | ((with_reducible refine gate_dst (N := 2) rfl ?_); refine box_event ?hg (N := 2) ?hd (cs := #[.int .i64 a0_0, .slice A0_1 l0_1.length c0_1]) (t := 26) ?hr ?_; (case hd => rfl); (case hg => rfl); (case hr => first | (go_simp; done) | (go_simp; rfl)); intro gb133 hg w8 hbox hb; have BK133 := zA (hbox); have GW133 := zA ((by rw [hg]; exact (below_size (zQ HB.out)) : w.heap.size ≤ gb133)); have GE133 := zA ((by rw [hg]; exact (below_size (zQ HB.out)) : w.heap.size ≤ gb133)); replace HB := zA (below_step (zQ HB.out) hb); clear hb hbox hg))
 go_ret
 exact ⟨zr, zT HB.out GE133.out⟩

/-! ### impl_checkWords: function 49: a contract of our own -/
def wordB (n : Int) (w : List Int) : Bool := decide (w.length ≤ 24) && w.all fun x => decide (0 ≤ x ∧ x ≤ wrap64 (n - 1))
def impl_checkWords.f (k : Nat) (a0_0 : Int) (l0_1 : List Int) (l1 : List (List Int)) : Option Int :=
 (impl_IsAlphabet.f k a0_0 l0_1).bind fun t => some (if t = true then (if l1.all (wordB a0_0) = true then 0 else 2) else 1)
theorem isWord_some (n : Int) (D w : List Int) : impl_isWord.f n D w = some (wordB n w) := by
 unfold impl_isWord.f wordB
 by_cases h : w.length ≤ 24
 ·rw [if_pos (by omega)]
  simp [h, impl_allIn.f]
 rw [if_neg (by omega)]
 simp [h]
theorem checkWords_pred (n : Int) (A : Option Addr) (c : Nat) (D : List Int) (B : Nat) (w : World) (hB : B < w.heap.size) (hD : (Kd.int .i64).C w A D.length D) (hc : D.length ≤ c)
  (h0 : w.cell? ⟨B, 0, none⟩ = some (.int .i64 n)) (h1 : w.cell? ⟨B, 1, none⟩ = some (.slice A D.length c)) :
  PredL 102 #[.pointer (some ⟨B, 0, none⟩)] (fun x => !wordB n x) w := fun W A2 c2 x hb hx hcx => by
 have k0 : W.cell? ⟨B, 0, none⟩ = some (.int .i64 n) := (hb.cell (p := ⟨B, 0, none⟩) hB).trans h0
 have k1 : W.cell? ⟨B, 1, none⟩ = some (.slice A D.length c) := (hb.cell (p := ⟨B, 1, none⟩) hB).trans h1
 have hcall := impl_isWord.calls n A c D A2 c2 x (wordB n x) W (Kd.C_below hD hb) hc hx hcx (isWord_some n D x)
 replace hcall := zA hcall
 clear h0 h1 hb hx hcx hD hc
 show Calls Tryd.prog 102 #[.slice A2 x.length c2, .pointer (some ⟨B, 0, none⟩)] W fun e W' => e = .returned (.bool (!wordB n x)) ∧ Below W.heap.size W W'
 generalize wordB n x = b at hcall ⊢
 have hu := Tryd.underlying26
 go_enter Tryd.func102, Tryd.ntmps102
 go_wp2_with fail
 refine hcall.out.mono ?_
 rintro e w' ⟨rfl, hb⟩
 replace hb := zA hb
 clear hcall
 go_wp2
 go_ret
 exact ⟨rfl, hb.out⟩
theorem impl_checkWords.calls (k : Nat) (a0_0 : Int) (A0_1 : Option Addr) (c0_1 : Nat) (l0_1 : List Int) (A1 : Option Addr) (c1 : Nat) (l1 : List (List Int)) (r : Int) (w : World) (hr0_1 : Kd.C (Kd.int .i64) w A0_1 l0_1.length l0_1) (hc0_1 : l0_1.length ≤ c0_1)
  (hr1 : Kd.C (Kd.slice 24 (Kd.int .i64)) w A1 l1.length l1) (hc1 : l1.length ≤ c1) (hT : TabW w) (h : impl_checkWords.f k a0_0 l0_1 l1 = some r) :
  Calls Tryd.prog 49 #[.agg #[.int .i64 a0_0, .slice A0_1 l0_1.length c0_1], .slice A1 l1.length c1] w fun e w' => e = .returned (.int .i64 r) ∧ Below w.heap.size w w' := by
 obtain ⟨t, ht, hr⟩ := Option.bind_eq_some_iff.mp h
 clear h
 have hW : Below w.heap.size w (w.alloc (.cells #[.int .i64 a0_0, .slice A0_1 l0_1.length c0_1] 26)) := zB (Below.refl _ w) _
 have hal := zA (impl_IsAlphabet.calls k a0_0 A0_1 c0_1 l0_1 t (w.alloc (.cells #[.int .i64 a0_0, .slice A0_1 l0_1.length c0_1] 26)) (Kd.C_below hr0_1 hW) hc0_1 (hT.below hW) ht)
 have eg : ∀ args w, (callFunc 102 args).run Tryd.prog w = .ok (.enter 102 args) w := enters_fn Tryd.func102 (by kernel_rfl) rfl
 have hcon := zA (fun (W : World) (hb : Below (w.alloc (.cells #[.int .i64 a0_0, .slice A0_1 l0_1.length c0_1] 26)).heap.size (w.alloc (.cells #[.int .i64 a0_0, .slice A0_1 l0_1.length c0_1] 26)) W) =>
  containsFuncL_any A1 c1 l1 102 #[.pointer (some ⟨w.heap.size, 0, none⟩)] (fun x => !wordB a0_0 x) W eg
  (checkWords_pred a0_0 A0_1 c0_1 l0_1 w.heap.size W (Nat.lt_of_lt_of_le (by simp) hb.size) (Kd.C_below (Kd.C_below hr0_1 hW) hb) hc0_1 ((hb.cell (p := ⟨w.heap.size, 0, none⟩) (by simp)).trans (by simp)) ((hb.cell (p := ⟨w.heap.size, 1, none⟩) (by simp)).trans (by simp))) (Kd.C_below (Kd.C_below hr1 hW) hb))
 replace hW := zA hW
 clear ht eg hr0_1 hr1 hc1 hc0_1 hT
 have hany : (l1.any fun x => !wordB a0_0 x) = !(l1.all (wordB a0_0)) := by rw [List.all_eq_not_any_not]; simp
 rw [hany] at hcon
 clear hany
 generalize l1.all (wordB a0_0) = b at hcon hr
 have hu := Tryd.underlying26
 cases t with
 | false =>
  rw [if_neg (by decide)] at hr
  obtain rfl := Option.some.inj hr
  clear hr
  go_enter Tryd.func49, Tryd.ntmps49
  go_wp2_with fail
  refine hal.out.mono ?_
  rintro e w' ⟨rfl, hb⟩
  replace hb := zA hb
  clear hal hcon
  go_wp2
  go_ret
  exact ⟨rfl, below_step hW.out hb.out⟩
 | true =>
  rw [if_pos rfl] at hr
  cases b with
  | false =>
   rw [if_neg (by decide)] at hr
   obtain rfl := Option.some.inj hr
   clear hr
   go_enter Tryd.func49, Tryd.ntmps49
   go_wp2_with fail
   refine hal.out.mono ?_
   rintro e w' ⟨rfl, hb⟩
   replace hb := zA hb
   clear hal
   go_wp2_with fail
   refine (hcon.out _ hb.out).mono ?_
   rintro e w'' ⟨rfl, hb2⟩
   replace hb2 := zA hb2
   clear hcon
   go_wp2
   go_ret
   exact ⟨rfl, below_step (below_step hW.out hb.out) hb2.out⟩
  | true =>
   rw [if_pos rfl] at hr
   obtain rfl := Option.some.inj hr
   clear hr
   go_enter Tryd.func49, Tryd.ntmps49
   go_wp2_with fail
   refine hal.out.mono ?_
   rintro e w' ⟨rfl, hb⟩
   replace hb := zA hb
   clear hal
   go_wp2_with fail
   refine (hcon.out _ hb.out).mono ?_
   rintro e w'' ⟨rfl, hb2⟩
   replace hb2 := zA hb2
   clear hcon
   go_wp2
   go_ret
   exact ⟨rfl, below_step (below_step hW.out hb.out) hb2.out⟩

/-! ### impl_Alphabet_ties: function 50 -/
def impl_Alphabet_ties.f (a0_0 : Int) (l0_1 : List Int) : Option (List Int) := some l0_1
set_option maxHeartbeats 8000000 in
set_option maxRecDepth 100000 in
theorem impl_Alphabet_ties.calls (a0_0 : Int) (P0_1_ : Nat → Prop) (A0_1 : Option Addr) (c0_1 : Nat) (l0_1 : List Int) (r : List Int) (w : World) (hs0_1 : Kd.V (Kd.int .i64) 2 w w.heap.size (fun k_ => P0_1_ k_) (.slice A0_1 l0_1.length c0_1) l0_1) (h : impl_Alphabet_ties.f a0_0 l0_1 = some r) :
  Calls Tryd.prog 50 #[.agg #[.int .i64 a0_0, .slice A0_1 l0_1.length c0_1]] w fun e w' => ∃ v0_ : Value, e = .returned (v0_) ∧ Kd.V (Kd.int .i64) 2 w' w.heap.size (fun k_ => (P0_1_ k_ ∨ w.heap.size ≤ k_)) v0_ r ∧ Below w.heap.size w w' := by
 have hu26 := Tryd.underlying26
 have HO0_1 := zA (show Kd.V (Kd.int .i64) 2 w w.heap.size (fun k_ => (P0_1_ k_ ∨ w.heap.size ≤ k_)) (.slice A0_1 l0_1.length c0_1) l0_1 from Kd.V_mono hs0_1 (fun k_ hk => .inl hk))
 have HB := zA (Below.refl w.heap.size w)
 have H : (some l0_1) = some r := h
 clear h
 obtain rfl := Option.some.inj H
 go_enter Tryd.func50, Tryd.ntmps50
 go_wp2_with (first | ((with_reducible refine gate_dst (N := 1) rfl ?_); refine box_event ?hg (N := 1) ?hd (cs := #[.int .i64 a0_0, .slice A0_1 l0_1.length c0_1]) (t := 26) ?hr ?_; (case hd => rfl); (case hg => rfl); (case hr => first | (go_simp; done) | (go_simp; rfl)); intro gb135 hg w2 hbox hb; replace HO0_1 := zA (Kd.V_below (Kd.V_elderB (zPV HO0_1.out) gb135 (Nat.le_of_eq hg.symm)) hb); have BK135 := zA (hbox); have GW135 := zA ((by rw [hg]; exact (below_size (zQ HB.out)) : w.heap.size ≤ gb135)); have GE135 := zA ((by rw [hg]; exact (below_size (zQ HB.out)) : w.heap.size ≤ gb135)); replace HB := zA (below_step (zQ HB.out) hb); clear hb hbox hg; have hcz3_0 : w2.cell? ⟨gb135, 0, none⟩ = some (.int .i64 a0_0) := (blk_cell BK135.out 0).trans rfl; have hcz3_1 : w2.cell? ⟨gb135, 1, none⟩ = some (.slice A0_1 l0_1.length c0_1) := (blk_cell BK135.out 1).trans rfl; have hfz3_0 := blk_frozen BK135.out 0; have hfz3_1 := blk_frozen BK135.out 1))
 go_ret
 exact ⟨_, zr, by (with_reducible repeat (first | apply Kd.V_alloc | apply Kd.V_drewN | apply Kd.V_drew)); exact Kd.V_mono HO0_1.out (fun _ hk => hk.1), zT HB.out GE135.out⟩

/-! ### impl_ties_firsts: function 51 -/
def impl_ties_firsts.l0 : Nat → List Int → Int → Int → List Int → Int → Int → Option (Int)
 | 0, _, _, _, _, _, _ => none
 | k + 1, x0, x5, x6, x9, x10, x11 => if x11 < x10 then (if 0 ≤ x11 then (if x11 < (x9.length : Int) then ((impl_has.f x6 (rd x9 x11)).bind fun t137 => (if t137 = true then (if 0 ≤ (rd x9 x11) then (if (rd x9 x11) < (x0.length : Int) then (impl_ties_firsts.l0 k x0 x5 (Go.bits .or .i64 x6 (rd x0 (rd x9 x11))) x9 x10 (wrap64 (x11 + 1))) else (none)) else (none)) else ((impl_one.f (rd x9 x11)).bind fun t139 => (if 0 ≤ (rd x9 x11) then (if (rd x9 x11) < (x0.length : Int) then (impl_ties_firsts.l0 k x0 (Go.bits .or .i64 x5 t139) (Go.bits .or .i64 x6 (rd x0 (rd x9 x11))) x9 x10 (wrap64 (x11 + 1))) else (none)) else (none))))) else (none)) else (none)) else (some x5)
def impl_ties_firsts.f (k : Nat) (l0 : List Int) (l1 : List Int) : Option (Int) := impl_ties_firsts.l0 k l0 0 0 l1 (l1.length : Int) 0

set_option maxHeartbeats 8000000 in
set_option maxRecDepth 100000 in
theorem impl_ties_firsts.calls (k : Nat) (A0 : Option Addr) (c0 : Nat) (l0 : List Int) (A1 : Option Addr) (c1 : Nat) (l1 : List Int) (r : Int) (w : World) (hr0 : Kd.C (Kd.int .i64) w A0 l0.length l0) (hc0 : l0.length ≤ c0) (hr1 : Kd.C (Kd.int .i64) w A1 l1.length l1) (hc1 : l1.length ≤ c1) (h : impl_ties_firsts.f k l0 l1 = some r) :
  Calls Tryd.prog 51 #[.slice A0 l0.length c0, .slice A1 l1.length c1] w fun e w' => e = .returned (.int .i64 r) ∧ Drawn0 w w' := by
 have HR0 := zA hr0
 have HC0 := zA hc0
 clear hr0 hc0
 have HR1 := zA hr1
 have HC1 := zA hc1
 clear hr1 hc1
 have H : (impl_ties_firsts.l0 k l0 0 0 l1 (l1.length : Int) 0) = some r := h
 clear h
 have H' := zA H
 clear H
 go_enter Tryd.func51, Tryd.ntmps51
 go_wp2
 go_loopg [5, 6, 11] k (fun kq v5 v6 v11 w' => ∃ (x5_1 : Int) (x6_1 : Int) (x11_1 : Int), v5 = .int .i64 x5_1 ∧ v6 = .int .i64 x6_1 ∧ v11 = .int .i64 x11_1 ∧ Aside0 (impl_ties_firsts.l0 kq l0 x5_1 x6_1 l1 (l1.length : Int) x11_1 = some r) ∧ Aside0 (kq ≤ k) ∧ Drawn0 w w')
 case atStart => exact ⟨(0), (0), (0), (by first | rfl | (simp; done) | (simp [*]; done)), (by first | rfl | (simp; done) | (simp [*]; done)), (by first | rfl | (simp; done) | (simp [*]; done)), H', ⟨Nat.le_refl _⟩, by repeat (first | exact Drawn0.refl _ | apply Drawn0.step)⟩
 case round =>
  clear H'
  try clear c1
  try clear p2
  obtain ⟨x5_1, x6_1, x11_1, rfl, rfl, rfl, HA, HK1, ⟨m1, rfl⟩⟩ := hrel
  cases gk with
  | zero => exact absurd HA.out (by simp [impl_ties_firsts.l0])
  | succ k1 =>
   have H := HA.out
   clear HA
   simp only [impl_ties_firsts.l0] at H
   by_cases c3 : x11_1 < (l1.length : Int)
   ·rw [if_pos c3] at H
    have c3b0 : decide (x11_1 < (l1.length : Int)) = true := decide_eq_true c3
    clear c3
    by_cases c4 : 0 ≤ x11_1
    ·rw [if_pos c4] at H
     have c4b0 : decide (0 ≤ x11_1) = true := decide_eq_true c4
     clear c4
     by_cases c5 : x11_1 < (l1.length : Int)
     ·rw [if_pos c5] at H
      have c5b0 : decide (x11_1 < (l1.length : Int)) = true := decide_eq_true c5
      clear c5
      obtain ⟨t137, A6, H⟩ := zb H
      try dsimp only at H
      by_cases c7 : t137 = true
      ·subst c7
       have H1 : (if 0 ≤ (rd l1 x11_1) then (if (rd l1 x11_1) < (l0.length : Int) then (impl_ties_firsts.l0 k1 l0 x5_1 (Go.bits .or .i64 x6_1 (rd l0 (rd l1 x11_1))) l1 (l1.length : Int) (wrap64 (x11_1 + 1))) else (none)) else (none)) = some r := by rw [if_pos rfl] at H; exact H
       clear H
       have H := H1
       clear H1
       by_cases c8 : 0 ≤ (rd l1 x11_1)
       ·rw [if_pos c8] at H
        have c8b0 : decide (0 ≤ (rd l1 x11_1)) = true := decide_eq_true c8
        clear c8
        by_cases c9 : (rd l1 x11_1) < (l0.length : Int)
        ·rw [if_pos c9] at H
         have c9b0 : decide ((rd l1 x11_1) < (l0.length : Int)) = true := decide_eq_true c9
         clear c9
         have H' := zA H
         clear H
         have p136 : 0 ≤ (x11_1 : Int) := zd
         have q136 : x11_1 < (l1.length : Int) := zd
         obtain ⟨ad136, e136, hx136_0⟩ := Kd.at_int HR1.out x11_1 p136 q136
         cases e136
         replace p136 := eq_true p136
         replace q136 := eq_true q136
         go_wp2_with (first | ((with_reducible refine gate_callee (f := 104) rfl ?_); refine zO (some 17) Tryd.func104 #[.int .i64 x6_1, .int .i64 (rd l1 x11_1)] ?_; (with_reducible refine (impl_has.calls x6_1 (rd l1 x11_1) true _ A6.out).mono ?_); rintro e w' ⟨rfl, ⟨nd, rfl⟩⟩; refine ⟨_, rfl, ?_⟩; have p138 : 0 ≤ ((rd l1 x11_1) : Int) := zd; have q138 : (rd l1 x11_1) < (l0.length : Int) := zd; obtain ⟨ad138, e138, hx138_0⟩ := Kd.at_int HR0.out (rd l1 x11_1) p138 q138; cases e138; replace p138 := eq_true p138; replace q138 := eq_true q138))
         go_roundg k1
         case measure => have := HK1.out; omega
         case rel => exact ⟨(x5_1), (Go.bits .or .i64 x6_1 (rd l0 (rd l1 x11_1))), (wrap64 (x11_1 + 1)), (by first | rfl | (simp; done) | (simp [*]; done)), (by first | rfl | (simp; done) | (simp [*]; done)), (by first | rfl | (simp; done) | (simp [*]; done)), H', ⟨by have := HK1.out; omega⟩, by repeat (first | exact Drawn0.refl _ | apply Drawn0.step)⟩
        rw [if_neg c9] at H
        exact absurd H (by simp)
       rw [if_neg c8] at H
       exact absurd H (by simp)
      replace c7 := Bool.eq_false_iff.mpr c7
      subst c7
      have H1 : ((impl_one.f (rd l1 x11_1)).bind fun t139 => (if 0 ≤ (rd l1 x11_1) then (if (rd l1 x11_1) < (l0.length : Int) then (impl_ties_firsts.l0 k1 l0 (Go.bits .or .i64 x5_1 t139) (Go.bits .or .i64 x6_1 (rd l0 (rd l1 x11_1))) l1 (l1.length : Int) (wrap64 (x11_1 + 1))) else (none)) else (none))) = some r := by rw [if_neg (show ¬ (false = true) by decide)] at H; exact H
      clear H
      have H := H1
      clear H1
      obtain ⟨t139, A10, H⟩ := zb H
      try dsimp only at H
      by_cases c11 : 0 ≤ (rd l1 x11_1)
      ·rw [if_pos c11] at H
       have c11b0 : decide (0 ≤ (rd l1 x11_1)) = true := decide_eq_true c11
       clear c11
       by_cases c12 : (rd l1 x11_1) < (l0.length : Int)
       ·rw [if_pos c12] at H
        have c12b0 : decide ((rd l1 x11_1) < (l0.length : Int)) = true := decide_eq_true c12
        clear c12
        have H' := zA H
        clear H
        have p136 : 0 ≤ (x11_1 : Int) := zd
        have q136 : x11_1 < (l1.length : Int) := zd
        obtain ⟨ad136, e136, hx136_0⟩ := Kd.at_int HR1.out x11_1 p136 q136
        cases e136
        replace p136 := eq_true p136
        replace q136 := eq_true q136
        go_wp2_with (first | ((with_reducible refine gate_callee (f := 104) rfl ?_); refine zO (some 17) Tryd.func104 #[.int .i64 x6_1, .int .i64 (rd l1 x11_1)] ?_; (with_reducible refine (impl_has.calls x6_1 (rd l1 x11_1) false _ A6.out).mono ?_); rintro e w' ⟨rfl, ⟨nd, rfl⟩⟩; refine ⟨_, rfl, ?_⟩) | ((with_reducible refine gate_callee (f := 105) rfl ?_); refine zO (some 21) Tryd.func105 #[.int .i64 (rd l1 x11_1)] ?_; (with_reducible refine (impl_one.calls (rd l1 x11_1) t139 _ A10.out).mono ?_); rintro e w' ⟨rfl, ⟨nd, rfl⟩⟩; refine ⟨_, rfl, ?_⟩; have p140 : 0 ≤ ((rd l1 x11_1) : Int) := zd; have q140 : (rd l1 x11_1) < (l0.length : Int) := zd; obtain ⟨ad140, e140, hx140_0⟩ := Kd.at_int HR0.out (rd l1 x11_1) p140 q140; cases e140; replace p140 := eq_true p140; replace q140 := eq_true q140))
        go_roundg k1
        case measure => have := HK1.out; omega
        case rel => exact ⟨(Go.bits .or .i64 x5_1 t139), (Go.bits .or .i64 x6_1 (rd l0 (rd l1 x11_1))), (wrap64 (x11_1 + 1)), (by first | rfl | (simp; done) | (simp [*]; done)), (by first | rfl | (simp; done) | (simp [*]; done)), (by first | rfl | (simp; done) | (simp [*]; done)), H', ⟨by have := HK1.out; omega⟩, by repeat (first | exact Drawn0.refl _ | apply Drawn0.step)⟩
       rw [if_neg c12] at H
       exact absurd H (by simp)
      rw [if_neg c11] at H
      exact absurd H (by simp)
     rw [if_neg c5] at H
     exact absurd H (by simp)
    rw [if_neg c4] at H
    exact absurd H (by simp)
   rw [if_neg c3] at H
   have c3b0 : decide (x11_1 < (l1.length : Int)) = false := decide_eq_false c3
   clear c3
   obtain rfl := Option.some.inj H
   go_wp2
   go_ret
   exact ⟨by first | rfl | (simp; done) | (simp [*]; done), by repeat (first | exact Drawn0.refl _ | apply Drawn0.step)⟩

-- NOT PRINTED: function 116 (slices_Grow_int64_int64)

/-! ### slices_Concat_int64_int64: function 73: a contract of our own -/
def slices_Concat_int64_int64.f (l0 : List (List Int)) : Option (List Int) := if (l0.map List.length).sum < 17592186044416 then some l0.flatten else none
theorem pw_wrap64_id {x : Int} (h1 : -9223372036854775808 ≤ x) (h2 : x ≤ 9223372036854775807) : wrap64 x = x := by
 unfold wrap64
 omega
set_option maxHeartbeats 2000000 in
set_option maxRecDepth 100000 in
theorem grow_nil (n : Int) (h0 : 0 ≤ n) (hn : n < 17592186044416) (w : World) :
  Calls Tryd.prog 116 #[.slice none 0 0, .int .i64 n] w fun e w' => ∃ v0_ : Value, e = .returned (v0_) ∧ Kd.R (Kd.int .i64) 2 w' w.heap.size (fun _ => True) v0_ [] ∧ Below w.heap.size w w' := by
 have e0 : (n < 0) = False := by simp; omega
 by_cases hp : 0 < n
 ·have e1 : (0 < n) = True := by simp [hp]
  go_enter Tryd.func116, Tryd.ntmps116
  go_wp2_with (first | ((with_reducible refine gate_builtin (b := .append) (xs := #[.tmp 20, .tmp 21]) rfl ?_); at_builtin; refine Kd.R_append_zeros (Kd.int .i64) (w0 := w) w.heap.size rfl (.tmp 20) (.tmp 21) 24 3 2 (.int .i64 0) 8 rfl Tryd.underlying24 Tryd.underlying3 info2 rfl (by decide) (by omega) (.slice none 0 0) [] 0 n (fun _ => True) rfl rfl rfl (fun _ _ => trivial) (Kd.R_nil _ _ _ _ _) h0 (Below.refl _ _) (Nat.le_refl _) (by simp; omega) ?_; intro v1 w1 ho hb hg hat; have hs := Kd.R_slice ho; obtain ⟨A1, c1, rfl⟩ := hs; have HO := zA (Kd.R_take ho (Nat.zero_le _)); have HB := zA hb; clear ho hb hg hat))
  go_ret
  exact ⟨_, rfl, HO.out, HB.out⟩
 have e1 : n = 0 := by omega
 subst e1
 go_enter Tryd.func116, Tryd.ntmps116
 go_wp2
 go_ret
 exact ⟨_, rfl, Kd.R_nil _ _ _ _ _, Below.refl _ _⟩
theorem take_sum_step (l : List (List Int)) (k : Nat) (hk : k < l.length) : ((l.take (k + 1)).map List.length).sum = ((l.take k).map List.length).sum + (l.getD k []).length := by
 rw [List.take_add_one, List.getElem?_eq_getElem hk, List.map_append, List.sum_append]
 simp [List.getD_eq_getElem?_getD, hk]
theorem take_sum_le (l : List (List Int)) (k : Nat) : ((l.take k).map List.length).sum ≤ (l.map List.length).sum := by
 have h : (l.map List.length).sum = ((l.take k).map List.length).sum + ((l.drop k).map List.length).sum := by
  rw [← List.sum_append, ← List.map_append, List.take_append_drop]
 omega
theorem take_flatten_step (l : List (List Int)) (k : Nat) (hk : k < l.length) : (l.take (k + 1)).flatten = (l.take k).flatten ++ l.getD k [] := by
 rw [List.take_add_one, List.getElem?_eq_getElem hk, List.flatten_append]
 simp [List.getD_eq_getElem?_getD, hk]
set_option maxHeartbeats 4000000 in
set_option maxRecDepth 100000 in
theorem slices_Concat_int64_int64.calls (A0 : Option Addr) (c0 : Nat) (l0 : List (List Int)) (r : List Int) (w : World) (hr0 : Kd.C (Kd.slice 24 (Kd.int .i64)) w A0 l0.length l0) (hc0 : l0.length ≤ c0) (h : slices_Concat_int64_int64.f l0 = some r) :
  Calls Tryd.prog 73 #[.slice A0 l0.length c0] w fun e w' => ∃ v0_ : Value, e = .returned (v0_) ∧ Kd.R (Kd.int .i64) 2 w' w.heap.size (fun _ => True) v0_ r ∧ Below w.heap.size w w' := by
 unfold slices_Concat_int64_int64.f at h
 by_cases hT : (l0.map List.length).sum < 17592186044416
 ·rw [if_pos hT] at h
  obtain rfl := Option.some.inj h
  clear h hc0
  have hl : l0.length ≤ 9223372036854775807 := hr0.2.1
  have HR0 := zA hr0
  have HT := zA hT
  clear hr0 hT
  go_enter Tryd.func73, Tryd.ntmps73
  go_wp2
  go_loopg [3, 5, 11] l0.length (fun gg v3 _ v11 wr => ∃ kk : Nat, kk ≤ l0.length ∧ l0.length - kk ≤ gg ∧ v3 = .int .i64 (((l0.take kk).map List.length).sum : Nat) ∧ v11 = .int .i64 kk ∧ Aside0 (Below w.heap.size w wr))
  case atStart => exact ⟨0, Nat.zero_le _, by omega, by simp, rfl, ⟨Below.refl _ _⟩⟩
  case round =>
   obtain ⟨kk, hkk, hg, rfl, rfl, HB⟩ := hrel
   by_cases hlt : kk < l0.length
   ·have hltz : (kk : Int) < (l0.length : Int) := by omega
    obtain ⟨ad, A1, c1, e0, hcell, hc1, hC1⟩ := at_row HR0.out kk hlt
    cases e0
    have S1 := zA (take_sum_step l0 kk hlt)
    have S2 := zA (take_sum_le l0 (kk + 1))
    replace hcell := pw_cell_below HB.out hcell
    clear hc1 hC1
    generalize hy : l0.getD kk [] = y at hcell S1
    generalize ((l0.take kk).map List.length).sum = s at S1 ⊢
    clear hy
    have hn : ¬ (wrap64 ((s : Int) + (y.length : Int)) < 0) := by
     have h1 := S1.out
     have h2 := S2.out
     have h3 := HT.out
     rw [pw_wrap64_id (by omega) (by omega)]; omega
    go_wp2
    go_roundg (l0.length - (kk + 1))
    case measure => omega
    case rel =>
     refine ⟨kk + 1, by omega, by omega, ?_, by go_num, ?_⟩
     ·rw [S1.out]
      have h1 := S1.out
      have h2 := S2.out
      have h3 := HT.out
      rw [pw_wrap64_id (by omega) (by omega)]; simp
     exact HB
   have hltz : ¬ (kk : Int) < (l0.length : Int) := by omega
   have : kk = l0.length := by omega
   subst this
   rw [List.take_length]
   have hF : ∀ kk, kk ≤ l0.length → ((l0.take kk).flatten).length ≤ (l0.map List.length).sum := fun kk _ => by
    rw [List.length_flatten]; exact take_sum_le l0 kk
   replace hF := zA hF
   generalize (l0.map List.length).sum = s at HT hF ⊢
   have hcall := grow_nil (s : Int) (by omega) (by have := HT.out; omega) wr
   replace hcall := zA hcall
   go_wp2_with fail
   refine hcall.out.mono ?_
   rintro e w1 ⟨v1, rfl, ho, hb⟩
   have HO := zA (Kd.R_lower ho HB.out.size)
   have HB1 := zA (below_step HB.out hb)
   clear hcall ho hb
   go_wp2
   go_loopg [6, 8, 27] l0.length (fun gg v6 _ v27 wr => ∃ kk : Nat, kk ≤ l0.length ∧ l0.length - kk ≤ gg ∧ v27 = .int .i64 kk ∧ Aside0 (Kd.R (Kd.int .i64) 2 wr w.heap.size (fun _ => True) v6 (l0.take kk).flatten) ∧ Aside0 (Below w.heap.size w wr))
   case atStart => exact ⟨0, Nat.zero_le _, by omega, rfl, ⟨by simpa using HO.out⟩, HB1⟩
   case round =>
    clear HO HB1 HB
    obtain ⟨kk, hkk, hg, rfl, HO, HB⟩ := hrel
    by_cases hlt : kk < l0.length
    ·have hltz : (kk : Int) < (l0.length : Int) := by omega
     obtain ⟨ad, A1, c1, e0, hcell, hc1, hC1⟩ := at_row HR0.out kk hlt
     cases e0
     have S1 := zA (take_flatten_step l0 kk hlt)
     have S2 := zA (hF.out (kk + 1) (by omega))
     replace hcell := pw_cell_below HB.out hcell
     replace hC1 := zA (Kd.C_below hC1 HB.out)
     clear hc1
     generalize hy : l0.getD kk [] = y at hcell S1 hC1
     clear hy
     generalize hz : (l0.take kk).flatten = z at HO S1
     clear hz
     have hlen : z.length + y.length ≤ s := by
      have h2 := S2.out
      rw [S1.out, List.length_append] at h2
      exact h2
     have HLN := zA hlen
     clear hlen
     go_wp2_with (first | ((with_reducible refine gate_builtin (b := .append) (xs := #[.tmp 31, .tmp 32]) rfl ?_); at_builtin; refine Kd.R_append_rows (Kd.int .i64) (w0 := w) w.heap.size rfl (.tmp 31) (.tmp 32) 24 2 (.int .i64 0) 8 rfl Tryd.underlying24 info2 rfl (by decide) (by omega) u6 z y _ _ _ (fun _ => True) (fun _ => False) rfl rfl ?aO ?aR (fun _ _ h => h) (fun _ h => h.elim) (fun _ _ => trivial) ?aB ?aS (by have := HLN.out; have := HT.out; omega) ?_; (case aR => exact zS hC1.out); (case aO => (with_reducible repeat (first | apply zF | apply zG | apply zH)); exact HO.out); (case aB => exact zQ HB.out); (case aS => exact below_size (zQ HB.out)); intro v6 w6 ho hb hg_ hat; have HO' := zA ho; have HB' := zA hb; clear ho hb hg_ hat))
     go_roundg (l0.length - (kk + 1))
     case measure => omega
     case rel => exact ⟨kk + 1, by omega, by omega, by go_num, ⟨by rw [S1.out]; exact HO'.out⟩, HB'⟩
    have hltz : ¬ (kk : Int) < (l0.length : Int) := by omega
    have : kk = l0.length := by omega
    subst this
    go_wp2
    go_ret
    refine ⟨_, rfl, ?_, HB.out⟩
    have := HO.out
    rw [List.take_length] at this
    exact this
 rw [if_neg hT] at h
 cases h

/-! ### slices_Index_int64_int64: function 113 -/
def slices_Index_int64_int64.l0 : Nat → List Int → Int → Int → Int → Option (Int)
 | 0, _, _, _, _ => none
 | k + 1, x0, x1, x7, x8 => if x8 < x7 then (if 0 ≤ x8 then (if x8 < (x0.length : Int) then (if x1 = (rd x0 x8) then (some x8) else (slices_Index_int64_int64.l0 k x0 x1 x7 (wrap64 (x8 + 1)))) else (none)) else (none)) else (some (-1))
def slices_Index_int64_int64.f (k : Nat) (l0 : List Int) (a1 : Int) : Option (Int) := slices_Index_int64_int64.l0 k l0 a1 (l0.length : Int) 0

set_option maxHeartbeats 8000000 in
set_option maxRecDepth 100000 in
theorem slices_Index_int64_int64.calls (k : Nat) (A0 : Option Addr) (c0 : Nat) (l0 : List Int) (a1 : Int) (r : Int) (w : World) (hr0 : Kd.C (Kd.int .i64) w A0 l0.length l0) (hc0 : l0.length ≤ c0) (h : slices_Index_int64_int64.f k l0 a1 = some r) :
  Calls Tryd.prog 113 #[.slice A0 l0.length c0, .int .i64 a1] w fun e w' => e = .returned (.int .i64 r) ∧ Drawn0 w w' := by
 have HR0 := zA hr0
 have HC0 := zA hc0
 clear hr0 hc0
 have H : (slices_Index_int64_int64.l0 k l0 a1 (l0.length : Int) 0) = some r := h
 clear h
 have H' := zA H
 clear H
 go_enter Tryd.func113, Tryd.ntmps113
 go_wp2
 go_loopg [8] k (fun kq v8 w' => ∃ (x8_1 : Int), v8 = .int .i64 x8_1 ∧ Aside0 (slices_Index_int64_int64.l0 kq l0 a1 (l0.length : Int) x8_1 = some r) ∧ Aside0 (kq ≤ k) ∧ Drawn0 w w')
 case atStart => exact ⟨(0), (by first | rfl | (simp; done) | (simp [*]; done)), H', ⟨Nat.le_refl _⟩, by repeat (first | exact Drawn0.refl _ | apply Drawn0.step)⟩
 case round =>
  clear H'
  try clear c1
  try clear p2
  obtain ⟨x8_1, rfl, HA, HK1, ⟨m1, rfl⟩⟩ := hrel
  cases gk with
  | zero => exact absurd HA.out (by simp [slices_Index_int64_int64.l0])
  | succ k1 =>
   have H := HA.out
   clear HA
   simp only [slices_Index_int64_int64.l0] at H
   by_cases c3 : x8_1 < (l0.length : Int)
   ·rw [if_pos c3] at H
    have c3b0 : decide (x8_1 < (l0.length : Int)) = true := decide_eq_true c3
    clear c3
    by_cases c4 : 0 ≤ x8_1
    ·rw [if_pos c4] at H
     have c4b0 : decide (0 ≤ x8_1) = true := decide_eq_true c4
     clear c4
     by_cases c5 : x8_1 < (l0.length : Int)
     ·rw [if_pos c5] at H
      have c5b0 : decide (x8_1 < (l0.length : Int)) = true := decide_eq_true c5
      clear c5
      by_cases c6 : a1 = (rd l0 x8_1)
      ·rw [if_pos c6] at H
       have c6b0 : (a1 == (rd l0 x8_1)) = true := beq_iff_eq.mpr c6
       have c6b1 : (a1 != (rd l0 x8_1)) = false := bne_eq_false_iff_eq.mpr c6
       clear c6
       obtain rfl := Option.some.inj H
       have p141 : 0 ≤ (x8_1 : Int) := zd
       have q141 : x8_1 < (l0.length : Int) := zd
       obtain ⟨ad141, e141, hx141_0⟩ := Kd.at_int HR0.out x8_1 p141 q141
       cases e141
       replace p141 := eq_true p141
       replace q141 := eq_true q141
       go_wp2
       go_ret
       exact ⟨by first | rfl | (simp; done) | (simp [*]; done), by repeat (first | exact Drawn0.refl _ | apply Drawn0.step)⟩
      rw [if_neg c6] at H
      have c6b0 : (a1 == (rd l0 x8_1)) = false := beq_eq_false_iff_ne.mpr c6
      have c6b1 : (a1 != (rd l0 x8_1)) = true := bne_iff_ne.mpr c6
      have H' := zA H
      clear H
      have p141 : 0 ≤ (x8_1 : Int) := zd
      have q141 : x8_1 < (l0.length : Int) := zd
      obtain ⟨ad141, e141, hx141_0⟩ := Kd.at_int HR0.out x8_1 p141 q141
      cases e141
      replace p141 := eq_true p141
      replace q141 := eq_true q141
      go_wp2
      go_roundg k1
      case measure => have := HK1.out; omega
      case rel => exact ⟨(wrap64 (x8_1 + 1)), (by first | rfl | (simp; done) | (simp [*]; done)), H', ⟨by have := HK1.out; omega⟩, by repeat (first | exact Drawn0.refl _ | apply Drawn0.step)⟩
     rw [if_neg c5] at H
     exact absurd H (by simp)
    rw [if_neg c4] at H
    exact absurd H (by simp)
   rw [if_neg c3] at H
   have c3b0 : decide (x8_1 < (l0.length : Int)) = false := decide_eq_false c3
   clear c3
   obtain rfl := Option.some.inj H
   go_wp2
   go_ret
   exact ⟨by first | rfl | (simp; done) | (simp [*]; done), by repeat (first | exact Drawn0.refl _ | apply Drawn0.step)⟩

/-! ### impl_withoutFirst: function 63 -/
def slices_Index_int64_int64_BwithoutFirst.f (k : Nat) (l0 : List Int) (a1 : Int) : Option (Int) := slices_Index_int64_int64.f k l0 a1
theorem slices_Index_int64_int64_BwithoutFirst.calls (k : Nat) (A0 : Option Addr) (c0 : Nat) (l0 : List Int) (a1 : Int) (r : Int) (w : World) (hr0 : Kd.C (Kd.int .i64) w A0 l0.length l0) (hc0 : l0.length ≤ c0) (h : slices_Index_int64_int64_BwithoutFirst.f k l0 a1 = some r) :
 Calls Tryd.prog 113 #[.slice A0 l0.length c0, .int .i64 a1] w fun e w' => e = .returned (.int .i64 r) ∧ Below w.heap.size w w' := by
 refine (slices_Index_int64_int64.calls k A0 c0 l0 a1 r w hr0 hc0 h).mono ?_
 rintro e w' ⟨h1, h2⟩
 exact ⟨h1, Drawn0.below h2⟩
def impl_withoutFirst.f (k : Nat) (l0 : List Int) (a1 : Int) : Option (List Int) := (slices_Index_int64_int64_BwithoutFirst.f k l0 a1).bind fun t142 => (if 0 ≤ t142 then (if t142 ≤ (l0.length : Int) then (if 0 ≤ (wrap64 (t142 + 1)) then (if (wrap64 (t142 + 1)) ≤ (l0.length : Int) then ((slices_Concat_int64_int64.f (([(l0.take (t142 : Int).toNat), (l0.drop ((wrap64 (t142 + 1)) : Int).toNat)] : List (List Int)))).bind fun t156 => (some t156)) else (none)) else (none)) else (none)) else (none))

def impl_withoutFirst.T2 : Bool × List (List Nat × List Nat) := (true, [([], []), ([], []), ([0, 1], [0, 1]), ([], []), ([], []), ([4], [4]), ([3, 5], [3, 5]), ([2, 6], [2, 6]), ([7], [7]), ([8, 8, 0, 1, 2, 3, 4, 5, 6, 7, 8], [8])])
def impl_withoutFirst.B2 : List Nat := [0, 0, 3, 0, 0, 16, 56, 127, 255, 511]
theorem impl_withoutFirst.tab2 : rtab .any (opsOf Tryd.f63 2) = impl_withoutFirst.T2 := by kernel_rfl
theorem impl_withoutFirst.bits2 : waitsOk impl_withoutFirst.T2.2 impl_withoutFirst.B2 = true := by kernel_rfl
set_option maxHeartbeats 8000000 in
set_option maxRecDepth 100000 in
theorem impl_withoutFirst.calls (k : Nat) (P0_ : Nat → Prop) (A0 : Option Addr) (c0 : Nat) (l0 : List Int) (a1 : Int) (r : List Int) (w : World) (hs0 : Kd.V (Kd.int .i64) 2 w w.heap.size (fun k_ => P0_ k_) (.slice A0 l0.length c0) l0) (h : impl_withoutFirst.f k l0 a1 = some r) :
  Calls Tryd.prog 63 #[.slice A0 l0.length c0, .int .i64 a1] w fun e w' => ∃ v0_ : Value, e = .returned (v0_) ∧ Kd.R (Kd.int .i64) 2 w' w.heap.size (fun k_ => (w.heap.size ≤ k_)) v0_ r ∧ Below w.heap.size w w' := by
 have HO0 := zA (show Kd.V (Kd.int .i64) 2 w w.heap.size (fun k_ => (P0_ k_ ∨ w.heap.size ≤ k_)) (.slice A0 l0.length c0) l0 from Kd.V_mono hs0 (fun k_ hk => .inl hk))
 have HB := zA (Below.refl w.heap.size w)
 have H : ((slices_Index_int64_int64_BwithoutFirst.f k l0 a1).bind fun t142 => (if 0 ≤ t142 then (if t142 ≤ (l0.length : Int) then (if 0 ≤ (wrap64 (t142 + 1)) then (if (wrap64 (t142 + 1)) ≤ (l0.length : Int) then ((slices_Concat_int64_int64.f (([(l0.take (t142 : Int).toNat), (l0.drop ((wrap64 (t142 + 1)) : Int).toNat)] : List (List Int)))).bind fun t156 => (some t156)) else (none)) else (none)) else (none)) else (none))) = some r := h
 clear h
 obtain ⟨t142, A3, H⟩ := zb H
 try dsimp only at H
 by_cases c4 : 0 ≤ t142
 ·rw [if_pos c4] at H
  have c4b0 := eq_true c4
  have c4b1 : decide (0 ≤ t142) = true := decide_eq_true c4
  clear c4
  by_cases c5 : t142 ≤ (l0.length : Int)
  ·rw [if_pos c5] at H
   have c5b0 := eq_true c5
   have c5b1 : decide (t142 ≤ (l0.length : Int)) = true := decide_eq_true c5
   clear c5
   obtain ⟨y143, hy143⟩ : ∃ y_ : List Int, y_ = (l0.take (t142 : Int).toNat) := ⟨_, rfl⟩
   replace H : (if 0 ≤ (wrap64 (t142 + 1)) then (if (wrap64 (t142 + 1)) ≤ (l0.length : Int) then ((slices_Concat_int64_int64.f (([y143, (l0.drop ((wrap64 (t142 + 1)) : Int).toNat)] : List (List Int)))).bind fun t156 => (some t156)) else (none)) else (none)) = some r := zy hy143 H
   have Ny143 := zA hy143
   clear hy143
   obtain ⟨ji6, hji6⟩ : ∃ j_ : Int, (wrap64 (t142 + 1)) = j_ := ⟨_, rfl⟩
   replace H : (if 0 ≤ (ji6) then (if (ji6) ≤ (l0.length : Int) then ((slices_Concat_int64_int64.f (([y143, (l0.drop ((ji6) : Int).toNat)] : List (List Int)))).bind fun t156 => (some t156)) else (none)) else (none)) = some r := by first | (rw [hji6] at H; exact H) | (simp only [hji6] at H ⊢; exact H)
   (try rw [hji6] at A3)
   have hji6w : (IntKind.i64.wrap (t142 + 1)) = ji6 := (i64_w _).trans hji6
   by_cases c7 : 0 ≤ (ji6)
   ·rw [if_pos c7] at H
    have c7b0 := eq_true c7
    have c7b1 : decide (0 ≤ (ji6)) = true := decide_eq_true c7
    clear c7
    by_cases c8 : (ji6) ≤ (l0.length : Int)
    ·rw [if_pos c8] at H
     have c8b0 := eq_true c8
     have c8b1 : decide ((ji6) ≤ (l0.length : Int)) = true := decide_eq_true c8
     clear c8
     obtain ⟨y148, hy148⟩ : ∃ y_ : List Int, y_ = (l0.drop ((ji6) : Int).toNat) := ⟨_, rfl⟩
     replace H : ((slices_Concat_int64_int64.f (([y143, y148] : List (List Int)))).bind fun t156 => (some t156)) = some r := zy hy148 H
     have Ny148 := zA hy148
     clear hy148
     obtain ⟨y153, hy153⟩ : ∃ y_ : List (List Int), y_ = (([y143, y148] : List (List Int))) := ⟨_, rfl⟩
     replace H : ((slices_Concat_int64_int64.f y153).bind fun t156 => (some t156)) = some r := zy hy153 H
     have Ny153 := zA hy153
     clear hy153
     obtain ⟨t156, A9, H⟩ := zb H
     try dsimp only at H
     obtain rfl := Option.some.inj H
     go_enter Tryd.func63, Tryd.ntmps63
     try go_wp2_with (first | ((with_reducible refine gate_callee (f := 113) rfl ?_); refine zO (some 8) Tryd.func113 #[.slice A0 l0.length c0, .int .i64 a1] ?_; (with_reducible refine (slices_Index_int64_int64_BwithoutFirst.calls k _ _ l0 a1 t142 _ ?side1 ?side2 A3.out).mono ?_); (case side1 => exact zS (Kd.V_reads' HO0.out).2.2); (case side2 => exact (Kd.V_reads' HO0.out).2.1); rintro e w10 ⟨rfl, hb⟩; refine ⟨_, rfl, ?_⟩; replace HO0 := zA (Kd.V_below (zPV HO0.out) hb); replace HB := zA (below_step (zQ HB.out) hb); (try clear hb)))
     replace HO0 := zA (Kd.V_drew HO0.out)
     replace HB := zA (zD HB.out)
     have q12 : (t142 : Int) ≤ ((l0.length : Int) : Int) := zd
     obtain ⟨i012, hi012, _, hsz12, _⟩ := info_parts info2
     have hroom12 : l0.length ≤ c0 := (Kd.V_reads' HO0.out).2.1
     have hC12 : Kd.F (Kd.int .i64) _ _ A0 l0.length l0 := (Kd.V_at (base := w.heap.size) HO0.out).2.2
     have hcut12 := cut_to (P := Tryd.prog) 24 2 .i64 Tryd.underlying24 hi012 A0 l0.length c0 t142 (zd) q12 hroom12
     have hr12 := Kd.F_take (m := (t142 : Int).toNat) hC12 (by omega)
     have hy12 : y143.length = (t142 : Int).toNat := (by rw [Ny143.out, List.length_take]; omega)
     rw [← Ny143.out] at hr12
     rw [← hy12] at hcut12
     have HO147 := zA (show Kd.V (Kd.int .i64) 2 _ w.heap.size _ (.slice A0 y143.length c0) y143 from Kd.V_mk (by omega) hr12)
     have HC147 := zA (show y143.length ≤ c0 from by omega)
     clear hr12 hC12 hroom12 hi012 hsz12
     have KY12 := zA hy12
     clear hy12
     replace q12 := eq_true q12
     have q13 : ((ji6) : Int) ≤ ((l0.length : Int) : Int) := zd
     obtain ⟨i013, hi013, _, hsz13, _⟩ := info_parts info2
     have hroom13 : l0.length ≤ c0 := (Kd.V_reads' HO0.out).2.1
     have hC13 : Kd.F (Kd.int .i64) _ _ A0 l0.length l0 := (Kd.V_at (base := w.heap.size) HO0.out).2.2
     have q013 : (0 : Int) ≤ ((ji6) : Int) := zd
     have hcut13 := cut_from (P := Tryd.prog) 24 2 .i64 Tryd.underlying24 hi013 1 hsz13 A0 l0.length c0 (ji6) q013 q13
     have hr13 := Kd.F_cut (m := ((ji6) : Int).toNat) (c := c0) hC13 (by omega) hroom13
     obtain ⟨A13, hA13⟩ : ∃ A1, A1 = (if c0 = ((ji6) : Int).toNat then A0 else (A0 : Option Addr).map (·.add (((ji6) : Int).toNat * 1))) := ⟨_, rfl⟩
     obtain ⟨c13, hc13⟩ : ∃ c1, c1 = c0 - ((ji6) : Int).toNat := ⟨_, rfl⟩
     have hy13 : y148.length = l0.length - ((ji6) : Int).toNat := (by rw [Ny148.out, List.length_drop] <;> omega)
     rw [show (l0).drop ((ji6) : Int).toNat = y148 from Ny148.out.symm] at hr13
     replace hr13 : Kd.F (Kd.int .i64) _ _ A13 y148.length y148 := (by rw [hA13]; exact hr13)
     rw [← hy13, ← hA13, ← hc13] at hcut13
     have HO152 := zA (show Kd.V (Kd.int .i64) 2 _ w.heap.size _ (.slice A13 y148.length c13) y148 from Kd.V_mk (by rw [hy13, hc13]; exact Nat.sub_le_sub_right hroom13 _) hr13)
     have HC152 := zA (show y148.length ≤ c13 from by rw [hy13, hc13]; exact Nat.sub_le_sub_right hroom13 _)
     clear hr13 hC13 hroom13 hi013 hsz13 hc13
     have KY13 := zA hy13
     have KA13 := zA hA13
     clear hy13 hA13
     replace q13 := eq_true q13
     refine start_ (n := 10) (S := fun w' => True) (ds := []) #[false, false, false, false, false, false, false, false, false, false] (by kernel_rfl) rfl rfl trivial (fun hHeld => ?_); refine with_tabW impl_withoutFirst.tab2 impl_withoutFirst.bits2 (fun HT_ HW_ => ?_)
     generalize w10.drew = w11 at HO0 HB HO147 HO152 hHeld ⊢
     refine zp 0 (some 9) #[true, false, false, false, false, false, false, false, false, false] HT_.out ?_
     refine zp 1 (some 10) #[true, true, false, false, false, false, false, false, false, false] HT_.out ?_
     refine zp 2 (some 11) #[true, true, true, false, false, false, false, false, false, false] HT_.out ?_
     refine zp 3 (some 12) #[true, true, true, true, false, false, false, false, false, false] HT_.out ?_
     refine zp 4 (some 13) #[true, true, true, true, true, false, false, false, false, false] HT_.out ?_
     refine zp 5 (some 14) #[true, true, true, true, true, true, false, false, false, false] HT_.out ?_
     refine zp 6 (some 15) #[true, true, true, true, true, true, true, false, false, false] HT_.out ?_
     refine one_ (i := 7) (N := some 16) #[true, true, true, true, true, true, true, true, false, false] rfl rfl (one_of HT_.out (by kernel_rfl)) (by decide) (fun K hK => ?_)
     refine Kd.N_lit_step (Kd.slice 2 (Kd.int .i64)) _ 24 ?hg (N' := 16) ?hd (xs := ([y143, y148] : List (List Int))) (inner := [.slice A0 y143.length c0, .slice A13 y148.length c13]) (ok := (fun k_ => (P0_ k_ ∨ w.heap.size ≤ k_))) (okp := (fun k_ => (P0_ k_ ∨ w.heap.size ≤ k_))) ?hr ?hp (fun _ hk => hk) ((show ∀ k_ : Nat, (_ : Nat) ≤ k_ → (fun k_ => (P0_ k_ ∨ w.heap.size ≤ k_)) k_ from fun k_ hk => (.inr (Nat.le_trans (below_size (zQ HB.out)) hk))) _ (Nat.le_refl _)) (Below.refl _ _) (Nat.le_refl _) (by simp) ?_; (case hd => rfl); (case hg => rfl); (case hr => first | (go_simp; done) | (go_simp; rfl)); (case hp => exact (Reps.one (show Kd.FK (Kd.slice 2 (Kd.int .i64)) _ _ y143 [.slice A0 y143.length c0] from (Kd.FK_slice_mk (Kd.V_reads' (Kd.V_mono (ok' := (fun k_ => (P0_ k_ ∨ w.heap.size ≤ k_))) (HO147.out) (fun k_ hk => hk))).2.1 (Kd.V_F (Kd.V_mono (ok' := (fun k_ => (P0_ k_ ∨ w.heap.size ≤ k_))) (HO147.out) (fun k_ hk => hk))))) (Reps.one (show Kd.FK (Kd.slice 2 (Kd.int .i64)) _ _ y148 [.slice A13 y148.length c13] from (Kd.FK_slice_mk (Kd.V_reads' (Kd.V_mono (ok' := (fun k_ => (P0_ k_ ∨ w.heap.size ≤ k_))) (HO152.out) (fun k_ hk => hk))).2.1 (Kd.V_F (Kd.V_mono (ok' := (fun k_ => (P0_ k_ ∨ w.heap.size ≤ k_))) (HO152.out) (fun k_ hk => hk))))) (Reps.none _ _))))
     intro v154 w14 ho15 hb hg_ hnew_
     clear hg_ hnew_
     (first | rw [← Ny153.out] at ho15 | (simp only [Int.reduceToNat] at ho15; rw [← Ny153.out] at ho15))
     replace HO0 := zA (Kd.V_elder' (zPV HO0.out) (Kd.N_base ho15) hb)
     replace HO147 := zA (Kd.V_elder' (zPV HO147.out) (Kd.N_base ho15) hb)
     replace HO152 := zA (Kd.V_elder' (zPV HO152.out) (Kd.N_base ho15) hb)
     have HO155 := zA (Kd.N_lower ho15 (below_size (zQ HB.out)))
     replace HB := zA (below_step (zQ HB.out) hb)
     clear hb ho15
     obtain ⟨Ao16, co16, eo16⟩ := Kd.N_slice HO155.out
     (first | subst eo16 | (injection eo16 with f1_ f2_ f3_; have f4_ := f1_.symm; have f5_ := f3_.symm; clear f1_ f2_ f3_; subst f4_; subst f5_))
     refine hK.out _ _ trivial (fun hHeld => ?_)
     clear hK K
     refine norm_ (a' := ?_) ?_ ?_
     rotate_left
     ·show Act.put _ (some 16) _ = _
      simp only [Act.put, zL, zM, zN, i64_w, i32_w]
      rfl
     refine one_ (i := 8) (N := some 17) #[true, true, true, true, true, true, true, true, true, false] rfl rfl (one_of HT_.out (by kernel_rfl)) (by decide) (fun K hK => ?_)
     refine goes_ Tryd.func73 (by kernel_rfl) rfl #[.slice Ao16 y153.length co16] (by rfl) rfl rfl (by (try simp only [List.map_toArray, List.map_cons, List.map_nil]); first | done | rfl | (simp only [List.length_drop, List.length_take]; rfl)) ?_
     with_reducible refine (slices_Concat_int64_int64.calls _ _ y153 t156 _ ?side1 ?side2 A9.out).mono ?_
     (case side1 => exact zS (Kd.N_reads' HO155.out).2.2)
     (case side2 => exact (Kd.N_reads' HO155.out).2.1)
     rintro e w17 ⟨v157, rfl, ho0, hb⟩
     refine ⟨_, rfl, ?_⟩
     replace HO0 := zA (Kd.V_elder' (zPV HO0.out) (Kd.R_base ho0) hb)
     replace HO147 := zA (Kd.V_elder' (zPV HO147.out) (Kd.R_base ho0) hb)
     replace HO152 := zA (Kd.V_elder' (zPV HO152.out) (Kd.R_base ho0) hb)
     replace HO155 := zA (Kd.N_elder' (zPN HO155.out) (Kd.R_base ho0) hb)
     have HO158 := zA (Kd.R_lower (Kd.R_newM (M := fun k_ => (w.heap.size ≤ k_)) ho0 (below_size (zQ HB.out)) (fun k_ h_ => h_)) (below_size (zQ HB.out)))
     replace HB := zA (below_step (zQ HB.out) hb)
     (try clear hb)
     (try clear hb2)
     (try clear hk)
     (try clear hi)
     (try clear hgw)
     (try clear ho0)
     refine hK.out _ _ trivial (fun hHeld => ?_)
     clear hK K
     refine norm_ (a' := ?_) ?_ ?_
     rotate_left
     ·show Act.put _ (some 17) _ = _
      simp only [Act.put, zL, zM, zN, i64_w, i32_w]
      rfl
     refine zp 9 (some 4) #[true, true, true, true, true, true, true, true, true, true] HT_.out ?_
     refine done_ (done_of HT_.out (by kernel_rfl)) ?_
     try go_wp2
     go_ret
     exact ⟨_, by first | rfl | (simp [errW_none, errW_some] <;> rfl) | (simp only [← hji6]; first | rfl | (simp [errW_none, errW_some] <;> rfl)) | (simp [*, errW_none, errW_some] <;> rfl), by (with_reducible repeat (first | apply zF | apply zG | apply zH)); exact Kd.R_mono HO158.out (fun _ hk => hk.1), zQ HB.out⟩
    rw [if_neg c8] at H
    exact absurd H (by simp)
   rw [if_neg c7] at H
   exact absurd H (by simp)
  rw [if_neg c5] at H
  exact absurd H (by simp)
 rw [if_neg c4] at H
 exact absurd H (by simp)

/-! ### laws_likeInts: function 20 -/
def laws_likeInts.l0 : Nat → List Int → List Int → Int → Option (Bool)
 | 0, _, _, _ => none
 | k + 1, x0, x1, x5 => if x5 < (x0.length : Int) then (if 0 ≤ x5 then (if x5 < (x1.length : Int) then (if (rd x0 x5) = (rd x1 x5) then (laws_likeInts.l0 k x0 x1 (wrap64 (x5 + 1))) else (some false)) else (none)) else (none)) else (some true)
def laws_likeInts.f (k : Nat) (l0 : List Int) (l1 : List Int) : Option (Bool) := if (l0.length : Int) = (l1.length : Int) then (laws_likeInts.l0 k l0 l1 0) else (some false)

set_option maxHeartbeats 8000000 in
set_option maxRecDepth 100000 in
theorem laws_likeInts.calls (k : Nat) (A0 : Option Addr) (c0 : Nat) (l0 : List Int) (A1 : Option Addr) (c1 : Nat) (l1 : List Int) (r : Bool) (w : World) (hr0 : Kd.C (Kd.int .i64) w A0 l0.length l0) (hc0 : l0.length ≤ c0) (hr1 : Kd.C (Kd.int .i64) w A1 l1.length l1) (hc1 : l1.length ≤ c1) (h : laws_likeInts.f k l0 l1 = some r) :
  Calls Tryd.prog 20 #[.slice A0 l0.length c0, .slice A1 l1.length c1] w fun e w' => e = .returned (.bool r) ∧ Drawn0 w w' := by
 have HR0 := zA hr0
 have HC0 := zA hc0
 clear hr0 hc0
 have HR1 := zA hr1
 have HC1 := zA hc1
 clear hr1 hc1
 have H : (if (l0.length : Int) = (l1.length : Int) then (laws_likeInts.l0 k l0 l1 0) else (some false)) = some r := h
 clear h
 by_cases c3 : (l0.length : Int) = (l1.length : Int)
 ·rw [if_pos c3] at H
  have c3b0 : ((l0.length : Int) == (l1.length : Int)) = true := beq_iff_eq.mpr c3
  have c3b1 : ((l0.length : Int) != (l1.length : Int)) = false := bne_eq_false_iff_eq.mpr c3
  have c3b2 : (l0.length == l1.length) = true := by first | simpa using c3 | (simp at c3 ⊢; omega)
  clear c3
  have H' := zA H
  clear H
  go_enter Tryd.func20, Tryd.ntmps20
  go_wp2
  repeat (go_quiet (fail); try go_wp2)
  go_loopg [5] k (fun kq v5 w' => ∃ (x5_1 : Int), v5 = .int .i64 x5_1 ∧ Aside0 (laws_likeInts.l0 kq l0 l1 x5_1 = some r) ∧ Aside0 (kq ≤ k) ∧ Drawn0 w w')
  case atStart => exact ⟨(0), (by first | rfl | (simp; done) | (simp [*]; done)), H', ⟨Nat.le_refl _⟩, by repeat (first | exact Drawn0.refl _ | apply Drawn0.step)⟩
  case round =>
   clear H'
   try clear c1
   try clear c2
   try clear p2
   try clear c3
   try clear c3b0
   try clear c3b1
   try clear c3b2
   obtain ⟨x5_1, rfl, HA, HK1, ⟨m1, rfl⟩⟩ := hrel
   cases gk with
   | zero => exact absurd HA.out (by simp [laws_likeInts.l0])
   | succ k1 =>
    have H := HA.out
    clear HA
    simp only [laws_likeInts.l0] at H
    by_cases c4 : x5_1 < (l0.length : Int)
    ·rw [if_pos c4] at H
     have c4b0 : decide (x5_1 < (l0.length : Int)) = true := decide_eq_true c4
     clear c4
     by_cases c5 : 0 ≤ x5_1
     ·rw [if_pos c5] at H
      have c5b0 : decide (0 ≤ x5_1) = true := decide_eq_true c5
      clear c5
      by_cases c6 : x5_1 < (l1.length : Int)
      ·rw [if_pos c6] at H
       have c6b0 : decide (x5_1 < (l1.length : Int)) = true := decide_eq_true c6
       clear c6
       by_cases c7 : (rd l0 x5_1) = (rd l1 x5_1)
       ·rw [if_pos c7] at H
        have c7b0 : ((rd l0 x5_1) == (rd l1 x5_1)) = true := beq_iff_eq.mpr c7
        have c7b1 : ((rd l0 x5_1) != (rd l1 x5_1)) = false := bne_eq_false_iff_eq.mpr c7
        clear c7
        have H' := zA H
        clear H
        have p177 : 0 ≤ (x5_1 : Int) := zd
        have q177 : x5_1 < (l0.length : Int) := zd
        obtain ⟨ad177, e177, hx177_0⟩ := Kd.at_int HR0.out x5_1 p177 q177
        cases e177
        replace p177 := eq_true p177
        replace q177 := eq_true q177
        have p178 : 0 ≤ (x5_1 : Int) := zd
        have q178 : x5_1 < (l1.length : Int) := zd
        obtain ⟨ad178, e178, hx178_0⟩ := Kd.at_int HR1.out x5_1 p178 q178
        cases e178
        replace p178 := eq_true p178
        replace q178 := eq_true q178
        go_wp2
        repeat (go_quiet (fail); try go_wp2)
        go_roundg k1
        case measure => have := HK1.out; omega
        case rel => exact ⟨(wrap64 (x5_1 + 1)), (by first | rfl | (simp; done) | (simp [*]; done)), H', ⟨by have := HK1.out; omega⟩, by repeat (first | exact Drawn0.refl _ | apply Drawn0.step)⟩
       rw [if_neg c7] at H
       have c7b0 : ((rd l0 x5_1) == (rd l1 x5_1)) = false := beq_eq_false_iff_ne.mpr c7
       have c7b1 : ((rd l0 x5_1) != (rd l1 x5_1)) = true := bne_iff_ne.mpr c7
       obtain rfl := Option.some.inj H
       have p177 : 0 ≤ (x5_1 : Int) := zd
       have q177 : x5_1 < (l0.length : Int) := zd
       obtain ⟨ad177, e177, hx177_0⟩ := Kd.at_int HR0.out x5_1 p177 q177
       cases e177
       replace p177 := eq_true p177
       replace q177 := eq_true q177
       have p178 : 0 ≤ (x5_1 : Int) := zd
       have q178 : x5_1 < (l1.length : Int) := zd
       obtain ⟨ad178, e178, hx178_0⟩ := Kd.at_int HR1.out x5_1 p178 q178
       cases e178
       replace p178 := eq_true p178
       replace q178 := eq_true q178
       go_wp2
       repeat (go_quiet (fail); try go_wp2)
       go_ret
       exact ⟨by first | rfl | (simp; done) | (simp [*]; done), by repeat (first | exact Drawn0.refl _ | apply Drawn0.step)⟩
      rw [if_neg c6] at H
      exact absurd H (by simp)
     rw [if_neg c5] at H
     exact absurd H (by simp)
    rw [if_neg c4] at H
    have c4b0 : decide (x5_1 < (l0.length : Int)) = false := decide_eq_false c4
    clear c4
    obtain rfl := Option.some.inj H
    go_wp2
    repeat (go_quiet (fail); try go_wp2)
    go_ret
    exact ⟨by first | rfl | (simp; done) | (simp [*]; done), by repeat (first | exact Drawn0.refl _ | apply Drawn0.step)⟩
 rw [if_neg c3] at H
 have c3b0 : ((l0.length : Int) == (l1.length : Int)) = false := beq_eq_false_iff_ne.mpr c3
 have c3b1 : ((l0.length : Int) != (l1.length : Int)) = true := bne_iff_ne.mpr c3
 have c3b2 : (l0.length == l1.length) = false := by first | simpa using c3 | (simp at c3 ⊢; omega)
 obtain rfl := Option.some.inj H
 go_enter Tryd.func20, Tryd.ntmps20
 go_wp2
 repeat (go_quiet (fail); try go_wp2)
 go_ret
 exact ⟨by first | rfl | (simp; done) | (simp [*]; done), by repeat (first | exact Drawn0.refl _ | apply Drawn0.step)⟩

/-- A state of type 101 at block g of W; what its slices lead to came in by w0. -/
def Z101 (w0 W : World) (g : Nat) (f0 : List Int) (f1 : Int) (f2 : Int) : Prop := ∃ A0 c0, W.heap[g]? = some (.cells #[.slice A0 f0.length c0, .int .i64 f1, .int .u64 f2] 101 (0, 0)) ∧ w0.heap.size ≤ g ∧ Kd.C (Kd.int .u8) w0 A0 f0.length f0
theorem Z101.grown {w0 W : World} {g : Nat} {f0 : List Int} {f1 : Int} {f2 : Int} {W1 : World} {row : Option Nat} (h : Z101 w0 W g f0 f1 f2) (hw : W.grownBy W1 row) (hne : some g ≠ row) : Z101 w0 W1 g f0 f1 f2 := by
 obtain ⟨A0, c0, hb, hg, hr0⟩ := h
 exact ⟨A0, c0, blk_grown hb hw hne, hg, hr0⟩
theorem Z101.own_neN {w0 W : World} {g : Nat} {f0 : List Int} {f1 : Int} {f2 : Int} {α : Type} {d : Kd α} {e : Nat} {base : Nat} {ok : Nat → Prop} {v : Value} {xs : List α} (h : Z101 w0 W g f0 f1 f2) (ho : Kd.N d e W base ok v xs) (ht : e ≠ 101) : some g ≠ v.ownBlock := by
 obtain ⟨A0, c0, hb, hg, hr0⟩ := h
 exact Kd.N_ne ho hb ht
theorem Z101.fresh {w0 W : World} {g : Nat} {f0 : List Int} {f1 : Int} {f2 : Int} (h : Z101 w0 W g f0 f1 f2) : ∀ k, W.heap.size ≤ k → k ≠ g := by
 obtain ⟨A0, c0, hb, hg, hr0⟩ := h
 exact Kd.freshB hb
theorem Z101.kept {w0 W : World} {g : Nat} {f0 : List Int} {f1 : Int} {f2 : Int} {W1 : World} {S : Nat → Prop} (h : Z101 w0 W g f0 f1 f2) (hk : Kept W W1 S) (hne : ¬ S g) : Z101 w0 W1 g f0 f1 f2 := by
 obtain ⟨A0, c0, hb, hg, hr0⟩ := h
 exact ⟨A0, c0, blk_kept hb hk hne, hg, hr0⟩
theorem Z101.below {w0 W : World} {g : Nat} {f0 : List Int} {f1 : Int} {f2 : Int} {W1 : World} (h : Z101 w0 W g f0 f1 f2) (hw : Below W.heap.size W W1) : Z101 w0 W1 g f0 f1 f2 := h.grown (grown_of_below hw none) (by simp)
theorem Z101.alloc {w0 W : World} {g : Nat} {f0 : List Int} {f1 : Int} {f2 : Int} (h : Z101 w0 W g f0 f1 f2) (o : Obj) : Z101 w0 (W.alloc o) g f0 f1 f2 := h.below (zB (Below.refl _ _) o)
theorem Z101.drewN {w0 W : World} {g : Nat} {f0 : List Int} {f1 : Int} {f2 : Int} (h : Z101 w0 W g f0 f1 f2) (m : Nat) : Z101 w0 (W.drewN m) g f0 f1 f2 := h
theorem Z101.drew {w0 W : World} {g : Nat} {f0 : List Int} {f1 : Int} {f2 : Int} (h : Z101 w0 W g f0 f1 f2) : Z101 w0 W.drew g f0 f1 f2 := h
theorem Z101.at_ {w0 W : World} {g : Nat} {f0 : List Int} {f1 : Int} {f2 : Int} {w' : World} {m : Nat} (hq : W.drewN m = w') (h : Z101 w0 W g f0 f1 f2) : Z101 w0 w' g f0 f1 f2 := by subst hq; exact Z101.drewN h m
theorem Z101.apart {w0 W : World} {g : Nat} {f0 : List Int} {f1 : Int} {f2 : Int} {α : Type} {d : Kd α} {e : Nat} {base : Nat} {ok : Nat → Prop} {v : Value} {xs : List α} (h : Z101 w0 W g f0 f1 f2) (ho : d.R e W base ok v xs) (ht : ∀ q, q ∈ e :: d.E → q ≠ 101) : d.R e W base (fun k => ok k ∧ k ≠ g) v xs := by
 obtain ⟨A0, c0, hb, hg, hr0⟩ := h
 exact Kd.R_types ho hb ht
theorem Z101.own_ne {w0 W : World} {g : Nat} {f0 : List Int} {f1 : Int} {f2 : Int} {α : Type} {d : Kd α} {e : Nat} {base : Nat} {ok : Nat → Prop} {v : Value} {xs : List α} (h : Z101 w0 W g f0 f1 f2) (ho : d.R e W base ok v xs) (ht : e ≠ 101) : some g ≠ v.ownBlock := by
 obtain ⟨A0, c0, hb, hg, hr0⟩ := h
 exact Kd.R_ne ho hb ht
theorem Z101.apartQ {w0 W : World} {g : Nat} {f0 : List Int} {f1 : Int} {f2 : Int} {α : Type} {d : Kd α} {e : Nat} {base : Nat} {ok : Nat → Prop} {v : Value} {xs : List α} (h : Z101 w0 W g f0 f1 f2) (ho : d.Q e W base ok v xs) (ht : ∀ q, q ∈ e :: d.E → q ≠ 101) : d.Q e W base (fun k => ok k ∧ k ≠ g) v xs := by
 obtain ⟨A0, c0, hb, hg, hr0⟩ := h
 exact Kd.Q_types ho hb ht
theorem Z101.own_neQ {w0 W : World} {g : Nat} {f0 : List Int} {f1 : Int} {f2 : Int} {α : Type} {d : Kd α} {e : Nat} {base : Nat} {ok : Nat → Prop} {v : Value} {xs : List α} (h : Z101 w0 W g f0 f1 f2) (ho : d.Q e W base ok v xs) (ht : e ≠ 101) : some g ≠ v.ownBlock := by
 obtain ⟨A0, c0, hb, hg, hr0⟩ := h
 exact Kd.Q_ne ho hb ht
theorem Z101.apartS {w0 W : World} {g : Nat} {f0 : List Int} {f1 : Int} {f2 : Int} {α : Type} {d : Kd α} {e : Nat} {base : Nat} {ok : Nat → Prop} {v : Value} {xs : List α} (h : Z101 w0 W g f0 f1 f2) (ho : d.S e W base ok v xs) (ht : ∀ q, q ∈ e :: d.E → q ≠ 101) : d.S e W base (fun k => ok k ∧ k ≠ g) v xs := by
 obtain ⟨A0, c0, hb, hg, hr0⟩ := h
 exact Kd.S_types ho hb ht
theorem Z101.own_neS {w0 W : World} {g : Nat} {f0 : List Int} {f1 : Int} {f2 : Int} {α : Type} {d : Kd α} {e : Nat} {base : Nat} {ok : Nat → Prop} {v : Value} {xs : List α} (h : Z101 w0 W g f0 f1 f2) (ho : d.S e W base ok v xs) (ht : e ≠ 101) : some g ≠ v.ownBlock := by
 obtain ⟨A0, c0, hb, hg, hr0⟩ := h
 exact Kd.S_ne ho hb ht
theorem Z101.lt {w0 W : World} {g : Nat} {f0 : List Int} {f1 : Int} {f2 : Int} (h : Z101 w0 W g f0 f1 f2) : g < W.heap.size := by
 obtain ⟨A0, c0, hb, hg, hr0⟩ := h
 exact blk_lt hb
theorem Z101.ge {w0 W : World} {g : Nat} {f0 : List Int} {f1 : Int} {f2 : Int} (h : Z101 w0 W g f0 f1 f2) : w0.heap.size ≤ g := by
 obtain ⟨A0, c0, hb, hg, hr0⟩ := h
 exact hg
theorem Z101.ne_blk {w0 W : World} {g : Nat} {f0 : List Int} {f1 : Int} {f2 : Int} {a : Nat} {cs : Array Value} {t : TypeId} {fr : Nat × Nat} (h : Z101 w0 W g f0 f1 f2) (hb2 : W.heap[a]? = some (.cells cs t fr)) (ht : t ≠ 101) : g ≠ a := by
 obtain ⟨A0, c0, hb, hg, hr0⟩ := h
 rintro rfl
 rw [hb] at hb2
 injection hb2 with hb2
 injection hb2 with _ ht2
 exact ht ht2.symm
theorem Z101.far {w0 W : World} {g : Nat} {f0 : List Int} {f1 : Int} {f2 : Int} {p : Addr} (h : Z101 w0 W g f0 f1 f2) (hne : g ≠ p.block) (u : Value) : Z101 w0 (W.setCell p u) g f0 f1 f2 := by
 obtain ⟨A0, c0, hb, hg, hr0⟩ := h
 exact ⟨A0, c0, blk_far hb hne u, hg, hr0⟩
theorem cellS101_0 {W : World} {g : Nat} {A0 : Option Addr} {c0 : Nat} {f0 : List Int} {f1 : Int} {f2 : Int} (h : W.heap[g]? = some (.cells #[.slice A0 f0.length c0, .int .i64 f1, .int .u64 f2] 101 (0, 0))) : W.cell? ⟨g, 0, none⟩ = some (.slice A0 f0.length c0) := (blk_cell h 0).trans rfl
theorem cellS101_1 {W : World} {g : Nat} {A0 : Option Addr} {c0 : Nat} {f0 : List Int} {f1 : Int} {f2 : Int} (h : W.heap[g]? = some (.cells #[.slice A0 f0.length c0, .int .i64 f1, .int .u64 f2] 101 (0, 0))) : W.cell? ⟨g, 1, none⟩ = some (.int .i64 f1) := (blk_cell h 1).trans rfl
theorem Z101.set_1 {w0 W : World} {g : Nat} {f0 : List Int} {f1 : Int} {f2 : Int} (h : Z101 w0 W g f0 f1 f2) (x : Int) : Z101 w0 (W.setCell ⟨g, 1, none⟩ (.int .i64 x)) g f0 x f2 := by
 obtain ⟨A0, c0, hb, hg, hr0⟩ := h
 exact ⟨A0, c0, by simpa using blk_set hb 1 (.int .i64 x), hg, hr0⟩
theorem cellS101_2 {W : World} {g : Nat} {A0 : Option Addr} {c0 : Nat} {f0 : List Int} {f1 : Int} {f2 : Int} (h : W.heap[g]? = some (.cells #[.slice A0 f0.length c0, .int .i64 f1, .int .u64 f2] 101 (0, 0))) : W.cell? ⟨g, 2, none⟩ = some (.int .u64 f2) := (blk_cell h 2).trans rfl
theorem Z101.set_2 {w0 W : World} {g : Nat} {f0 : List Int} {f1 : Int} {f2 : Int} (h : Z101 w0 W g f0 f1 f2) (x : Int) : Z101 w0 (W.setCell ⟨g, 2, none⟩ (.int .u64 x)) g f0 f1 x := by
 obtain ⟨A0, c0, hb, hg, hr0⟩ := h
 exact ⟨A0, c0, by simpa using blk_set hb 2 (.int .u64 x), hg, hr0⟩
theorem Z101.new (w0 W : World) (A0 : Option Addr) (c0 : Nat) (f0 : List Int) (f1 : Int) (f2 : Int) (hB : Below w0.heap.size w0 W) (hr0 : Kd.C (Kd.int .u8) w0 A0 f0.length f0) : Z101 w0 (W.alloc (.cells #[.slice A0 f0.length c0, .int .i64 f1, .int .u64 f2] 101)) W.heap.size f0 f1 f2 := ⟨A0, c0, by simpa using heap_alloc_new W _, hB.size, hr0⟩
theorem Z101.uA {p q : Prop} (h : p) (hh : p → q := by intro h; repeat (first | (with_reducible first | exact h | apply Z101.alloc | apply Z101.drewN | apply Z101.drew | apply Z101.set_1 | apply Z101.set_2) | exact h)) : q := hh h
theorem Z101.uB {p q a : Prop} (h : p) (g : a) (hh : p → a → q := by intro h g; repeat (first | (with_reducible first | exact h | apply Z101.alloc | apply Z101.drewN | apply Z101.drew | apply Z101.set_1 | apply Z101.set_2 | refine Z101.far ?_ g _) | exact h)) : q := hh h g
theorem Z101.uC {p q a b : Prop} (h : p) (g : a) (k : b) (hh : p → a → b → q := by intro h g k; repeat (first | (with_reducible first | exact h | apply Z101.alloc | apply Z101.drewN | apply Z101.drew | apply Z101.set_1 | apply Z101.set_2 | refine Z101.far ?_ g _ | refine Z101.far ?_ k _) | exact h)) : q := hh h g k
theorem Z101.below_keepW {w0 w w1 w2 : World} {g : Nat} (h0 : Below w0.heap.size w0 w) (h1 : Below w.heap.size w w1) (hk : KeepBut w1 w2 g none) (hb : Below w0.heap.size w0 w2) (hg : w.heap.size ≤ g) : Below w.heap.size w w2 := ⟨hb.os.trans h0.os.symm, hb.tape.trans h0.tape.symm, hb.output.trans h0.output.symm, Nat.le_trans h1.size hk.1, fun k hk2 => (hk.2 k (Nat.lt_of_lt_of_le hk2 h1.size) (by omega) (by simp)).trans (h1.block k hk2)⟩


/-! ### spec_l01Next: function 79 -/
def spec_l01Next.f (s0_0 : List Int) (s0_1 : Int) (s0_2 : Int) (a1 : Int) : Option (Int × Int × Int) := if a1 < 1 then (some (0, s0_1, s0_2)) else (if s0_1 < (s0_0.length : Int) then (if 0 ≤ s0_1 then (if a1 = 0 then (none) else (some (Int.tmod (wrap64 ((wrap64 (Go.bits .and .u64 ((IntKind.u64.wrap ((IntKind.u64.wrap (s0_2 * 6364136223846793005)) + 1442695040888963407)) / 8589934592) 16777215)) + (wrap64 (rd s0_0 s0_1)))) a1, wrap64 (s0_1 + 1), IntKind.u64.wrap ((IntKind.u64.wrap (s0_2 * 6364136223846793005)) + 1442695040888963407)))) else (none)) else (if a1 = 0 then (none) else (some (Int.tmod (wrap64 (Go.bits .and .u64 ((IntKind.u64.wrap ((IntKind.u64.wrap (s0_2 * 6364136223846793005)) + 1442695040888963407)) / 8589934592) 16777215)) a1, s0_1, IntKind.u64.wrap ((IntKind.u64.wrap (s0_2 * 6364136223846793005)) + 1442695040888963407)))))
set_option maxHeartbeats 8000000 in
set_option maxRecDepth 100000 in
theorem spec_l01Next.calls (g : Nat) (s0_0 : List Int) (s0_1 : Int) (s0_2 : Int) (a1 : Int) (r1 : Int) (r2 : Int) (r3 : Int) (w0 w : World) (hI : Z101 w0 w g s0_0 s0_1 s0_2) (hB : Below w0.heap.size w0 w) (h : spec_l01Next.f s0_0 s0_1 s0_2 a1 = some (r1, r2, r3)) :
  Calls Tryd.prog 79 #[.pointer (some ⟨g, 0, none⟩), .int .i64 a1] w fun e w' => e = .returned (.int .i64 r1) ∧ Z101 w0 w' g s0_0 r2 r3 ∧ Below w0.heap.size w0 w' ∧ KeepBut w w' g none := by
 have HI0 := zA hI
 have HK := zA (KeepBut.refl w g none)
 have HL := zA hB.size
 clear hI
 have HW0 := zA hB.size
 have HB := zA hB
 clear hB
 have H : (if a1 < 1 then (some (0, s0_1, s0_2)) else (if s0_1 < (s0_0.length : Int) then (if 0 ≤ s0_1 then (if a1 = 0 then (none) else (some (Int.tmod (wrap64 ((wrap64 (Go.bits .and .u64 ((IntKind.u64.wrap ((IntKind.u64.wrap (s0_2 * 6364136223846793005)) + 1442695040888963407)) / 8589934592) 16777215)) + (wrap64 (rd s0_0 s0_1)))) a1, wrap64 (s0_1 + 1), IntKind.u64.wrap ((IntKind.u64.wrap (s0_2 * 6364136223846793005)) + 1442695040888963407)))) else (none)) else (if a1 = 0 then (none) else (some (Int.tmod (wrap64 (Go.bits .and .u64 ((IntKind.u64.wrap ((IntKind.u64.wrap (s0_2 * 6364136223846793005)) + 1442695040888963407)) / 8589934592) 16777215)) a1, s0_1, IntKind.u64.wrap ((IntKind.u64.wrap (s0_2 * 6364136223846793005)) + 1442695040888963407)))))) = some (r1, r2, r3) := h
 clear h
 by_cases c3 : a1 < 1
 ·rw [if_pos c3] at H
  have c3b0 : decide (a1 < 1) = true := decide_eq_true c3
  clear c3
  simp only [Option.some.injEq, Prod.mk.injEq] at H
  obtain ⟨rfl, rfl, rfl⟩ := H
  go_enter Tryd.func79, Tryd.ntmps79
  go_wp2
  repeat (go_quiet (fail); try go_wp2)
  go_ret
  exact ⟨zr, by repeat (first | (with_reducible first | exact HI0.out | apply Z101.alloc | apply Z101.drewN | apply Z101.drew | apply Z101.set_1 | apply Z101.set_2) | exact HI0.out), zT HB.out (Z101.ge HI0.out), by repeat (first | (with_reducible first | exact HK.out | apply KeepBut.set_ | apply keep_drewN | apply keep_drew | apply keep_alloc) | exact HK.out)⟩
 rw [if_neg c3] at H
 have c3b0 : decide (a1 < 1) = false := decide_eq_false c3
 clear c3
 by_cases c4 : s0_1 < (s0_0.length : Int)
 ·rw [if_pos c4] at H
  have c4b0 : decide (s0_1 < (s0_0.length : Int)) = true := decide_eq_true c4
  clear c4
  by_cases c5 : 0 ≤ s0_1
  ·rw [if_pos c5] at H
   have c5b0 : decide (0 ≤ s0_1) = true := decide_eq_true c5
   clear c5
   by_cases c6 : a1 = 0
   ·rw [if_pos c6] at H
    exact absurd H (by simp)
   rw [if_neg c6] at H
   have c6b0 : (a1 == 0) = false := beq_eq_false_iff_ne.mpr c6
   have c6b1 : (a1 != 0) = true := bne_iff_ne.mpr c6
   simp only [Option.some.injEq, Prod.mk.injEq] at H
   obtain ⟨rfl, rfl, rfl⟩ := H
   obtain ⟨ASz7_0, cSz7_0, HGz7, hgz7, HSz7_0⟩ := HI0.out
   have hcz7_0 := cellS101_0 HGz7
   have hcz7_1 := cellS101_1 HGz7
   have hcz7_2 := cellS101_2 HGz7
   have hfz7_1 := blk_frozen HGz7 1
   have hfz7_2 := blk_frozen HGz7 2
   clear HGz7 hgz7
   have p179 : 0 ≤ (s0_1 : Int) := zd
   have q179 : s0_1 < (s0_0.length : Int) := zd
   obtain ⟨ad179, e179, hx179_0⟩ := Kd.at_int HSz7_0 s0_1 p179 q179
   cases e179
   have hn179_0 : ad179.block ≠ g := Nat.ne_of_lt (Nat.lt_of_lt_of_le (by have := World.block_lt_of_cell? _ _ hx179_0; first | rwa [add_block] at this | exact this) (Z101.ge HI0.out))
   replace hx179_0 := pw_cell_below HB.out hx179_0
   replace hx179_0 := (cell_far (p := ⟨g, 2, none⟩) (by first | (rw [add_block]; exact hn179_0) | (show (Addr.add _ _).block ≠ _; rw [add_block]; exact hn179_0) | exact hn179_0) (.int .u64 (IntKind.u64.wrap ((IntKind.u64.wrap (s0_2 * 6364136223846793005)) + 1442695040888963407)))).trans hx179_0
   (try have hy179_0 := fun (n_ : Nat) => (show (((w.drewN n_).setCell ⟨g, 2, none⟩ (.int .u64 (IntKind.u64.wrap ((IntKind.u64.wrap (s0_2 * 6364136223846793005)) + 1442695040888963407))))).cell? _ = some _ from hx179_0))
   clear hn179_0
   replace p179 := eq_true p179
   replace q179 := eq_true q179
   go_enter Tryd.func79, Tryd.ntmps79
   go_wp2
   repeat (go_quiet (fail); try go_wp2)
   go_ret
   exact ⟨zr, by repeat (first | (with_reducible first | exact HI0.out | apply Z101.alloc | apply Z101.drewN | apply Z101.drew | apply Z101.set_1 | apply Z101.set_2) | exact HI0.out), zT HB.out (Z101.ge HI0.out), by repeat (first | (with_reducible first | exact HK.out | apply KeepBut.set_ | apply keep_drewN | apply keep_drew | apply keep_alloc) | exact HK.out)⟩
  rw [if_neg c5] at H
  exact absurd H (by simp)
 rw [if_neg c4] at H
 have c4b0 : decide (s0_1 < (s0_0.length : Int)) = false := decide_eq_false c4
 clear c4
 by_cases c8 : a1 = 0
 ·rw [if_pos c8] at H
  exact absurd H (by simp)
 rw [if_neg c8] at H
 have c8b0 : (a1 == 0) = false := beq_eq_false_iff_ne.mpr c8
 have c8b1 : (a1 != 0) = true := bne_iff_ne.mpr c8
 simp only [Option.some.injEq, Prod.mk.injEq] at H
 obtain ⟨rfl, rfl, rfl⟩ := H
 obtain ⟨ASz9_0, cSz9_0, HGz9, hgz9, HSz9_0⟩ := HI0.out
 have hcz9_0 := cellS101_0 HGz9
 have hcz9_1 := cellS101_1 HGz9
 have hcz9_2 := cellS101_2 HGz9
 have hfz9_1 := blk_frozen HGz9 1
 have hfz9_2 := blk_frozen HGz9 2
 clear HGz9 hgz9
 go_enter Tryd.func79, Tryd.ntmps79
 go_wp2
 repeat (go_quiet (fail); try go_wp2)
 go_ret
 exact ⟨zr, by repeat (first | (with_reducible first | exact HI0.out | apply Z101.alloc | apply Z101.drewN | apply Z101.drew | apply Z101.set_1 | apply Z101.set_2) | exact HI0.out), zT HB.out (Z101.ge HI0.out), by repeat (first | (with_reducible first | exact HK.out | apply KeepBut.set_ | apply keep_drewN | apply keep_drew | apply keep_alloc) | exact HK.out)⟩

/-! ### spec_l01From: function 93 -/
def spec_l01From.l0 : Nat → List Int → Int → List Int → Int → Int → Option (List Int × Int × Int)
 | 0, _, _, _, _, _ => none
 | k + 1, x0, x4, x181000, x181001, x181002 => if x4 < (x0.length : Int) then (if x4 < 4096 then (if 0 ≤ x4 then (spec_l01From.l0 k x0 (wrap64 (x4 + 1)) x181000 x181001 (IntKind.u64.wrap ((IntKind.u64.wrap ((IntKind.u64.wrap (x181002 * 1099511628211)) + (IntKind.u64.wrap (rd x0 x4)))) + 11))) else (none)) else (some (x181000, x181001, x181002))) else (some (x181000, x181001, x181002))
def spec_l01From.f (k : Nat) (l0 : List Int) : Option (List Int × Int × Int) := spec_l01From.l0 k l0 0 l0 0 (IntKind.u64.wrap (9341 + (IntKind.u64.wrap ((l0.length : Int)))))

def spec_l01From.T5 : Bool × List (List Nat × List Nat) := (true, [([], []), ([], []), ([1], [1]), ([2], [2]), ([3], [3]), ([4], [4]), ([], []), ([], []), ([6, 7], [6, 7]), ([8], [8]), ([9], [9]), ([5, 10], [5, 10]), ([11], [11]), ([0, 0, 1, 2, 3, 4, 5, 6, 7, 8, 9, 10, 11, 12], [0]), ([13, 0, 1, 2, 3, 4, 5, 6, 7, 8, 9, 10, 11, 12], [13]), ([14, 12, 0, 1, 2, 3, 4, 5, 6, 7, 8, 9, 10, 11, 12], [12, 14])])
def spec_l01From.B5 : List Nat := [0, 0, 2, 6, 14, 30, 0, 0, 192, 448, 960, 2046, 4094, 8191, 16383, 32767]
theorem spec_l01From.tab5 : rtab .any (opsOf Tryd.f93 5) = spec_l01From.T5 := by kernel_rfl
theorem spec_l01From.bits5 : waitsOk spec_l01From.T5.2 spec_l01From.B5 = true := by kernel_rfl
set_option maxHeartbeats 8000000 in
set_option maxRecDepth 100000 in
theorem spec_l01From.calls (k : Nat) (A0 : Option Addr) (c0 : Nat) (l0 : List Int) (r1 : List Int) (r2 : Int) (r3 : Int) (w0 w : World) (hB : Below w0.heap.size w0 w) (hr0 : Kd.C (Kd.int .u8) w0 A0 l0.length l0) (hc0 : l0.length ≤ c0) (h : spec_l01From.f k l0 = some (r1, r2, r3)) :
  Calls Tryd.prog 93 #[.slice A0 l0.length c0] w fun e w' => ∃ g_ : Nat, e = .returned (.pointer (some ⟨g_, 0, none⟩)) ∧ Z101 w0 w' g_ r1 r2 r3 ∧ Below w0.heap.size w0 w' ∧ Below w.heap.size w w' ∧ w.heap.size ≤ g_ := by
 have hu101 := Tryd.underlying101
 have HR0 := zA hr0
 have HC0 := zA hc0
 clear hr0 hc0
 have HBW := zA (Below.refl w.heap.size w)
 have HB00 := zA hB
 have HW0 := zA hB.size
 have HB := zA hB
 clear hB
 have H : (spec_l01From.l0 k l0 0 l0 0 (IntKind.u64.wrap (9341 + (IntKind.u64.wrap ((l0.length : Int)))))) = some (r1, r2, r3) := h
 clear h
 have H' := zA H
 clear H
 go_enter Tryd.func93, Tryd.ntmps93
 go_wp2_with (first | ((with_reducible refine gate_dst (N := 11) rfl ?_); refine box_event ?hg (N := 11) ?hd (cs := #[.slice A0 l0.length c0, .int .i64 0, .int .u64 (IntKind.u64.wrap (9341 + (IntKind.u64.wrap ((l0.length : Int)))))]) (t := 101) ?hr ?_; (case hd => rfl); (case hg => rfl); (case hr => first | (go_simp; done) | (go_simp; rfl)); intro gb180 hg w2 hbox hb; replace HB := zA (below_step (zQ HB.out) hb); have BK180 := zA (hbox); have GW180 := zA ((by rw [hg]; exact (below_size (zQ HBW.out)) : w.heap.size ≤ gb180)); have GE180 := zA ((Nat.le_trans HW0.out (by rw [hg]; exact (below_size (zQ HBW.out)) : w.heap.size ≤ gb180) : w0.heap.size ≤ gb180)); replace HBW := zA (below_step HBW.out hb); clear hb hbox hg))
 go_loopg [4] k (fun kq v4 w' => ∃ (x4_1 : Int) (x181002_1 : Int), v4 = .int .i64 x4_1 ∧ Aside0 (spec_l01From.l0 kq l0 x4_1 l0 0 x181002_1 = some (r1, r2, r3)) ∧ Aside0 (kq ≤ k) ∧ Aside0 (w'.heap[gb180]? = some (.cells #[(.slice A0 l0.length c0), .int .i64 0, .int .u64 x181002_1] 101 (0, 0))) ∧ Aside0 (Below w0.heap.size w0 w') ∧ Aside0 (Below w.heap.size w w'))
 case atStart => exact ⟨(0), (IntKind.u64.wrap (9341 + (IntKind.u64.wrap ((l0.length : Int))))), (by first | rfl | (simp; done) | (simp [*]; done)), H', ⟨Nat.le_refl _⟩, ⟨by (with_reducible repeat (first | refine zJ ?_ _ | refine zK ?_ | refine zI ?_ _)); exact BK180.out⟩, ⟨zT HB.out GE180.out⟩, ⟨zT HBW.out GW180.out⟩⟩
 case round =>
  clear H'
  try clear p2
  obtain ⟨x4_1, x181002_1, rfl, HA, HK1, BK180, HB, HBW⟩ := hrel
  cases gk with
  | zero => exact absurd HA.out (by simp [spec_l01From.l0])
  | succ k1 =>
   have H := HA.out
   clear HA
   simp only [spec_l01From.l0] at H
   by_cases c3 : x4_1 < (l0.length : Int)
   ·rw [if_pos c3] at H
    have c3b0 : decide (x4_1 < (l0.length : Int)) = true := decide_eq_true c3
    clear c3
    by_cases c4 : x4_1 < 4096
    ·rw [if_pos c4] at H
     have c4b0 : decide (x4_1 < 4096) = true := decide_eq_true c4
     clear c4
     by_cases c5 : 0 ≤ x4_1
     ·rw [if_pos c5] at H
      have c5b0 : decide (0 ≤ x4_1) = true := decide_eq_true c5
      clear c5
      have H' := zA H
      clear H
      try go_wp2
      have n0_ := zA (zK BK180.out)
      have n1_ := zA (zD HB.out)
      have n1w_ := zA (zD HBW.out)
      clear BK180 HB HBW
      have BK180 := n0_
      have HB := n1_
      have HBW := n1w_
      clear n0_ n1_
      have p181 : 0 ≤ (x4_1 : Int) := zd
      have q181 : x4_1 < (l0.length : Int) := zd
      obtain ⟨ad181, e181, hx181_0⟩ := Kd.at_int HR0.out x4_1 p181 q181
      have hw181_0 := hx181_0
      cases e181
      replace hx181_0 := pw_cell_below HB.out hx181_0
      replace p181 := eq_true p181
      replace q181 := eq_true q181
      refine start_ (n := 16) (S := fun w' => w'.cell? ⟨gb180, 0, none⟩ = some (.slice (some ad181) l0.length c0) ∧ w'.cell? ⟨gb180, 1, none⟩ = some (.int .i64 0) ∧ w'.cell? ⟨gb180, 2, none⟩ = some (.int .u64 x181002_1) ∧ w'.cell? (ad181.add (x4_1).toNat) = some (.int .u8 (rd l0 x4_1))) (ds := [15]) #[false, false, false, false, false, false, false, false, false, false, false, false, false, false, false, false] (by kernel_rfl) rfl rfl ⟨(blk_cell BK180.out 0).trans rfl, (blk_cell BK180.out 1).trans rfl, (blk_cell BK180.out 2).trans rfl, (pw_cell_below HB.out hw181_0)⟩ (fun hHeld => ?_); refine with_tabW spec_l01From.tab5 spec_l01From.bits5 (fun HT_ HW_ => ?_)
      generalize wr.drew = w6 at BK180 HB HBW hx181_0 hHeld ⊢
      refine zp 0 (some 22) #[true, false, false, false, false, false, false, false, false, false, false, false, false, false, false, false] HT_.out ?_
      refine zp 1 (some 23) #[true, true, false, false, false, false, false, false, false, false, false, false, false, false, false, false] HT_.out ?_
      refine zp 2 (some 24) #[true, true, true, false, false, false, false, false, false, false, false, false, false, false, false, false] HT_.out ?_
      refine zp 3 (some 25) #[true, true, true, true, false, false, false, false, false, false, false, false, false, false, false, false] HT_.out ?_
      refine zp 6 (some 28) #[true, true, true, true, false, false, true, false, false, false, false, false, false, false, false, false] HT_.out ?_
      refine zp 7 (some 29) #[true, true, true, true, false, false, true, true, false, false, false, false, false, false, false, false] HT_.out ?_
      refine zp 8 (some 30) #[true, true, true, true, false, false, true, true, true, false, false, false, false, false, false, false] HT_.out ?_
      refine zf 4 (some 26) #[true, true, true, true, true, false, true, true, true, false, false, false, false, false, false, false] HT_.out HW_.out hHeld ?_
      refine zp 5 (some 27) #[true, true, true, true, true, true, true, true, true, false, false, false, false, false, false, false] HT_.out ?_
      refine zf 9 (some 31) #[true, true, true, true, true, true, true, true, true, true, false, false, false, false, false, false] HT_.out HW_.out hHeld ?_
      refine zp 10 (some 32) #[true, true, true, true, true, true, true, true, true, true, true, false, false, false, false, false] HT_.out ?_
      refine zp 11 (some 33) #[true, true, true, true, true, true, true, true, true, true, true, true, false, false, false, false] HT_.out ?_
      refine zp 12 (some 34) #[true, true, true, true, true, true, true, true, true, true, true, true, true, false, false, false] HT_.out ?_
      refine zp 13 (some 35) #[true, true, true, true, true, true, true, true, true, true, true, true, true, true, false, false] HT_.out ?_
      refine zp 14 (some 36) #[true, true, true, true, true, true, true, true, true, true, true, true, true, true, true, false] HT_.out ?_
      refine last_ (i := 15) (N := none) #[true, true, true, true, true, true, true, true, true, true, true, true, true, true, true, true] rfl rfl (one_of HT_.out (by kernel_rfl)) (by decide) (fun K hK => ?_)
      have hs7 : w6.cell? ⟨gb180, 2, none⟩ = some (.int .u64 x181002_1) := (blk_cell BK180.out 2).trans rfl
      have hfs7 := blk_frozen BK180.out 2
      refine skip_ (w1 := ?_) (by rfl) rfl ?_ ?_
      rotate_left
      ·go_simp
       rfl
      refine hK.out _ _ ?_
      clear hK K
      refine done_ (done_of HT_.out (by kernel_rfl)) ?_
      try go_wp2
      go_roundg k1
      case measure => have := HK1.out; omega
      case rel => exact ⟨(wrap64 (x4_1 + 1)), (IntKind.u64.wrap ((IntKind.u64.wrap ((IntKind.u64.wrap (x181002_1 * 1099511628211)) + (IntKind.u64.wrap (rd l0 x4_1)))) + 11)), (by first | rfl | (simp; done) | (simp [*]; done)), H', ⟨by have := HK1.out; omega⟩, ⟨by (with_reducible repeat (first | refine zJ ?_ _ | refine zK ?_ | refine zI ?_ _)); refine blk_put (cs := #[.slice (some ad181) l0.length c0, .int .i64 0, .int .u64 x181002_1]) ?_ 2 _ rfl; (with_reducible repeat (first | refine zJ ?_ _ | refine zK ?_ | refine zI ?_ _)); exact BK180.out⟩, ⟨zT HB.out GE180.out⟩, ⟨zT HBW.out GW180.out⟩⟩
     rw [if_neg c5] at H
     exact absurd H (by simp)
    rw [if_neg c4] at H
    have c4b0 : decide (x4_1 < 4096) = false := decide_eq_false c4
    clear c4
    simp only [Option.some.injEq, Prod.mk.injEq] at H
    obtain ⟨rfl, rfl, rfl⟩ := H
    go_wp2
    go_ret
    exact ⟨_, rfl, (show Z101 w0 _ gb180 l0 0 x181002_1 from ⟨_, _, by (with_reducible repeat (first | refine zJ ?_ _ | refine zK ?_ | refine zI ?_ _)); exact BK180.out, GE180.out, HR0.out⟩), zT HB.out GE180.out, zT HBW.out GW180.out, GW180.out⟩
   rw [if_neg c3] at H
   have c3b0 : decide (x4_1 < (l0.length : Int)) = false := decide_eq_false c3
   clear c3
   simp only [Option.some.injEq, Prod.mk.injEq] at H
   obtain ⟨rfl, rfl, rfl⟩ := H
   go_wp2
   go_ret
   exact ⟨_, rfl, (show Z101 w0 _ gb180 l0 0 x181002_1 from ⟨_, _, by (with_reducible repeat (first | refine zJ ?_ _ | refine zK ?_ | refine zI ?_ _)); exact BK180.out, GE180.out, HR0.out⟩), zT HB.out GE180.out, zT HBW.out GW180.out, GW180.out⟩

/-! ### spec_l01Pick: function 81 -/
def spec_l01Pick.f (s0_0 : List Int) (s0_1 : Int) (s0_2 : Int) (l1 : List Int) : Option (Int × Int × Int) := (spec_l01Next.f s0_0 s0_1 s0_2 (l1.length : Int)).bind fun bt182 => (if 0 ≤ bt182.1 then (if bt182.1 < (l1.length : Int) then (some (rd l1 bt182.1, bt182.2.1, bt182.2.2)) else (none)) else (none))
set_option maxHeartbeats 8000000 in
set_option maxRecDepth 100000 in
theorem spec_l01Pick.calls (g : Nat) (s0_0 : List Int) (s0_1 : Int) (s0_2 : Int) (A1 : Option Addr) (c1 : Nat) (l1 : List Int) (r1 : Int) (r2 : Int) (r3 : Int) (w0 w : World) (hI : Z101 w0 w g s0_0 s0_1 s0_2) (hB : Below w0.heap.size w0 w) (hr1 : Kd.C (Kd.int .i64) w A1 l1.length l1) (hc1 : l1.length ≤ c1) (hf1 : ∀ ad, A1 = some ad → 0 < l1.length → ad.block ≠ g) (h : spec_l01Pick.f s0_0 s0_1 s0_2 l1 = some (r1, r2, r3)) :
  Calls Tryd.prog 81 #[.pointer (some ⟨g, 0, none⟩), .slice A1 l1.length c1] w fun e w' => e = .returned (.int .i64 r1) ∧ Z101 w0 w' g s0_0 r2 r3 ∧ Below w0.heap.size w0 w' ∧ KeepBut w w' g none := by
 have HR1 := zA hr1
 have HC1 := zA hc1
 clear hr1 hc1
 have HI0 := zA hI
 have HK := zA (KeepBut.refl w g none)
 have HL := zA hB.size
 clear hI
 have HW0 := zA hB.size
 have HB := zA hB
 clear hB
 have H : ((spec_l01Next.f s0_0 s0_1 s0_2 (l1.length : Int)).bind fun bt182 => (if 0 ≤ bt182.1 then (if bt182.1 < (l1.length : Int) then (some (rd l1 bt182.1, bt182.2.1, bt182.2.2)) else (none)) else (none))) = some (r1, r2, r3) := h
 clear h
 obtain ⟨⟨t182, t183, t184⟩, A3, H⟩ := zb H
 try dsimp only at H
 by_cases c4 : 0 ≤ t182
 ·rw [if_pos c4] at H
  have c4b0 : decide (0 ≤ t182) = true := decide_eq_true c4
  clear c4
  by_cases c5 : t182 < (l1.length : Int)
  ·rw [if_pos c5] at H
   have c5b0 : decide (t182 < (l1.length : Int)) = true := decide_eq_true c5
   clear c5
   simp only [Option.some.injEq, Prod.mk.injEq] at H
   obtain ⟨rfl, rfl, rfl⟩ := H
   go_enter Tryd.func81, Tryd.ntmps81
   go_wp2_with (first | ((with_reducible refine gate_callee (f := 79) rfl ?_); refine zO (some 9) Tryd.func79 #[.pointer (some ⟨g, 0, none⟩), .int .i64 (l1.length : Int)] ?_; (with_reducible refine (spec_l01Next.calls g s0_0 s0_1 s0_2 (l1.length : Int) t182 t183 t184 w0 _ ?side1 ?side2 A3.out).mono ?_); (case side1 => exact Z101.uA HI0.out); (case side2 => exact zT HB.out (Z101.ge HI0.out)); rintro e w6 ⟨rfl, hi, hb, hk⟩; refine ⟨_, rfl, ?_⟩; replace HK := zA (KeepBut.trans (yA HK.out) hk (.inl rfl)); replace HB := zA (hb); replace HI0 := zA (hi); (try clear hb); (try clear hk); (try clear hi); have p185 : 0 ≤ (t182 : Int) := zd; have q185 : t182 < (l1.length : Int) := zd; obtain ⟨ad185, e185, hx185_0⟩ := Kd.at_int HR1.out t182 p185 q185; cases e185; replace hx185_0 := keep_cell HK.out hx185_0 (by first | (rw [add_block]; exact hf1 _ rfl (by omega)) | exact hf1 _ rfl (by omega) | exact hf1 ad185 rfl (by omega)); replace p185 := eq_true p185; replace q185 := eq_true q185))
   go_ret
   exact ⟨zr, by repeat (first | (with_reducible first | exact HI0.out | apply Z101.alloc | apply Z101.drewN | apply Z101.drew | apply Z101.set_1 | apply Z101.set_2) | exact HI0.out), zT HB.out (Z101.ge HI0.out), by repeat (first | (with_reducible first | exact HK.out | apply KeepBut.set_ | apply keep_drewN | apply keep_drew | apply keep_alloc) | exact HK.out)⟩
  rw [if_neg c5] at H
  exact absurd H (by simp)
 rw [if_neg c4] at H
 exact absurd H (by simp)

/-! ### spec_l01One: function 54 -/
def spec_l01One.f (a0 : Int) : Option (Int) := if 0 ≤ (IntKind.u64.wrap (a0)) then (some (shl .i64 1 (IntKind.u64.wrap (a0)))) else (none)
set_option maxHeartbeats 8000000 in
set_option maxRecDepth 100000 in
theorem spec_l01One.calls (a0 : Int) (r : Int) (w : World) (h : spec_l01One.f a0 = some r) :
  Calls Tryd.prog 54 #[.int .i64 a0] w fun e w' => e = .returned (.int .i64 r) ∧ Drawn0 w w' := by
 have H : (if 0 ≤ (IntKind.u64.wrap (a0)) then (some (shl .i64 1 (IntKind.u64.wrap (a0)))) else (none)) = some r := h
 clear h
 obtain ⟨ji2, hji2⟩ : ∃ j_ : Int, (IntKind.u64.wrap (a0)) = j_ := ⟨_, rfl⟩
 replace H : (if 0 ≤ (ji2) then (some (shl .i64 1 (ji2))) else (none)) = some r := by first | (rw [hji2] at H; exact H) | (simp only [hji2] at H ⊢; exact H)
 by_cases c3 : 0 ≤ (ji2)
 ·rw [if_pos c3] at H
  have c3b0 := eq_true c3
  have c3b1 : decide (0 ≤ (ji2)) = true := decide_eq_true c3
  clear c3
  obtain ⟨ji4, hji4⟩ : ∃ j_ : Int, (shl .i64 1 (ji2)) = j_ := ⟨_, rfl⟩
  replace H : (some ji4) = some r := by first | (rw [hji4] at H; exact H) | (simp only [hji4] at H ⊢; exact H)
  have hji4_ : (IntKind.i64.wrap (1 * 2 ^ min (ji2).toNat 64)) = ji4 := hji4
  have hji4z : (ji2) ≤ 64 → (IntKind.i64.wrap (1 * 2 ^ (ji2).toNat)) = ji4 := shl_small hji4
  have hji4u : (IntKind.i64.wrap (2 ^ min (ji2).toNat 64)) = ji4 := by have h_ := hji4_; rw [Int.one_mul] at h_; exact h_
  have hji4v : (ji2) ≤ 64 → (IntKind.i64.wrap (2 ^ (ji2).toNat)) = ji4 := fun hle_ => by have h_ := hji4z hle_; rw [Int.one_mul] at h_; exact h_
  have hji4y : (wrap64 (1 * 2 ^ min (ji2).toNat 64)) = ji4 := (i64_w _).symm.trans hji4_
  have hji4x : (ji2) ≤ 64 → (wrap64 (1 * 2 ^ (ji2).toNat)) = ji4 := fun h_ => (i64_w _).symm.trans (hji4z h_)
  obtain rfl := Option.some.inj H
  go_enter Tryd.func54, Tryd.ntmps54
  go_wp2
  go_ret
  exact ⟨by first | rfl | (simp; done) | (simp only [← hji2, ← hji4] <;> (first | rfl | simp)) | (simp [*]; done), by repeat (first | exact Drawn0.refl _ | apply Drawn0.step)⟩
 rw [if_neg c3] at H
 exact absurd H (by simp)

/-! ### spec_l02Free: function 94 -/
def spec_l02Free.l0 : Nat → Int → Int → Int → List Int → Option (Int × List Int)
 | 0, _, _, _, _ => none
 | k + 1, x0, x4, x191000, x191001 => if x4 < x0 then ((spec_l01One.f x4).bind fun t191 => (if x191001.length < 17592186044416 then (spec_l02Free.l0 k x0 (wrap64 (x4 + 1)) x191000 (x191001 ++ [t191])) else (none))) else (some (x191000, x191001))
def spec_l02Free.f (k : Nat) (a0 : Int) : Option (Int × List Int) := spec_l02Free.l0 k a0 0 a0 (([] : List Int))

def spec_l02Free.T5 : Bool × List (List Nat × List Nat) := (true, [([], []), ([0], [0]), ([], []), ([2], [2]), ([3], [3]), ([1, 4, 3], [1, 4]), ([0, 1, 2, 3, 4, 5], []), ([6, 5, 5, 0, 1, 2, 3, 4, 5], [5, 6])])
def spec_l02Free.B5 : List Nat := [0, 1, 0, 4, 12, 31, 63, 127]
theorem spec_l02Free.tab5 : rtab .any (opsOf Tryd.f94 5) = spec_l02Free.T5 := by kernel_rfl
theorem spec_l02Free.bits5 : waitsOk spec_l02Free.T5.2 spec_l02Free.B5 = true := by kernel_rfl
set_option maxHeartbeats 8000000 in
set_option maxRecDepth 100000 in
theorem spec_l02Free.calls (k : Nat) (a0 : Int) (r1 : Int) (r2 : List Int) (w : World) (h : spec_l02Free.f k a0 = some (r1, r2)) :
  Calls Tryd.prog 94 #[.int .i64 a0] w fun e w' => ∃ v1_ : Value, e = .returned (.agg #[.int .i64 r1, v1_]) ∧ Kd.R (Kd.int .i64) 2 w' w.heap.size (fun _ => True) v1_ r2 ∧ Below w.heap.size w w' := by
 have hu26 := Tryd.underlying26
 have HB := zA (Below.refl w.heap.size w)
 have H : (spec_l02Free.l0 k a0 0 a0 (([] : List Int))) = some (r1, r2) := h
 clear h
 obtain ⟨y187, hy187⟩ : ∃ y_ : List Int, y_ = (([] : List Int)) := ⟨_, rfl⟩
 replace H : (spec_l02Free.l0 k a0 0 a0 y187) = some (r1, r2) := zy hy187 H
 have Ny187 := zA hy187
 clear hy187
 have H' := zA H
 clear H
 go_enter Tryd.func94, Tryd.ntmps94
 go_wp2_with (first | ((with_reducible refine gate_dst (N := 2) rfl ?_); refine box_event ?hg (N := 2) ?hd (cs := #[.int .i64 0, .slice none 0 0]) (t := 26) ?hr ?_; (case hd => rfl); (case hg => rfl); (case hr => first | (go_simp; done) | (go_simp; rfl)); intro gb186 hg w2 hbox hb; have BK186 := zA (hbox); have GW186 := zA ((by rw [hg]; exact (below_size (zQ HB.out)) : w.heap.size ≤ gb186)); have GE186 := zA ((by rw [hg]; exact (below_size (zQ HB.out)) : w.heap.size ≤ gb186)); replace HB := zA (below_step (zQ HB.out) hb); clear hb hbox hg) | ((with_reducible refine gate_dst (N := 6) rfl ?_); refine Kd.R_lit (Kd.int .i64) _ 2 ?hg (N := 6) ?hd (xs := ([] : List Int)) (inner := []) (ok := fun _ => True) (okp := fun _ => True) ?hr ?hp (fun _ hk => hk) trivial (Below.refl _ _) (Nat.le_refl _) (by simp) ?_; (case hd => rfl); (case hg => rfl); (case hr => first | (go_simp; done) | (go_simp; rfl)); (case hp => exact (Reps.none _ _)); intro v188 w3 ho4 hb hg_ hnew_; clear hg_ hnew_; (first | rw [← Ny187.out] at ho4 | (simp only [Int.reduceToNat] at ho4; rw [← Ny187.out] at ho4)); have HO189 := zA (Kd.R_lower ho4 (below_size (zT HB.out GE186.out))); replace BK186 := zA (blk_below (g := gb186) (o := .cells #[.int .i64 0, .slice none 0 0] 26 (0, 0)) (zR BK186.out) hb); replace HB := zA (below_step (zT HB.out GE186.out) hb); clear hb ho4; obtain ⟨Ao5, co5, eo5⟩ := Kd.R_slice HO189.out; subst eo5) | ((with_reducible refine gate_dst (N := 3) rfl ?_); refine box_event ?hg (N := 3) ?hd (cs := #[.int .i64 0, .slice none 0 0]) (t := 26) ?hr ?_; (case hd => rfl); (case hg => rfl); (case hr => first | (go_simp; done) | (go_simp; rfl)); intro gb190 hg w6 hbox hb; replace HO189 := zA (Kd.R_below (zP HO189.out) hb); have BK190 := zA (hbox); have GW190 := zA ((by rw [hg]; exact (below_size (zT HB.out GE186.out)) : w.heap.size ≤ gb190)); have GE190 := zA ((by rw [hg]; exact (below_size (zT HB.out GE186.out)) : w.heap.size ≤ gb190)); replace HB := zA (below_step (zT HB.out GE186.out) hb); have NB186_190 := zA ((by rw [hg]; exact Nat.ne_of_lt (blk_lt (g := gb186) (o := .cells #[.int .i64 0, .slice none 0 0] 26 (0, 0)) (zR BK186.out)) : gb186 ≠ gb190)); have NB190_186 := zA ((by rw [hg]; exact Nat.ne_of_gt (blk_lt (g := gb186) (o := .cells #[.int .i64 0, .slice none 0 0] 26 (0, 0)) (zR BK186.out)) : gb190 ≠ gb186)); replace BK186 := zA (blk_below (g := gb186) (o := .cells #[.int .i64 0, .slice none 0 0] 26 (0, 0)) (zR BK186.out) hb); clear hb hbox hg; have hnb7 := NB190_186.out; have hnc7 := NB186_190.out; have hcz8_0 : w6.cell? ⟨gb190, 0, none⟩ = some (.int .i64 0) := (blk_cell BK190.out 0).trans rfl; have hcz8_1 : w6.cell? ⟨gb190, 1, none⟩ = some (.slice none 0 0) := (blk_cell BK190.out 1).trans rfl; have hfz8_0 := blk_frozen BK190.out 0; have hfz8_1 := blk_frozen BK190.out 1))
 go_loopg [4] k (fun kq v4 w' => ∃ (x4_1 : Int) (x191001_1 : List Int) (u191001 : Value), v4 = .int .i64 x4_1 ∧ Aside0 (spec_l02Free.l0 kq a0 x4_1 a0 x191001_1 = some (r1, r2)) ∧ Aside0 (kq ≤ k) ∧ Aside0 (Kd.R (Kd.int .i64) 2 w' w.heap.size (fun _ => True) u191001 x191001_1) ∧ Aside0 (w'.heap[gb186]? = some (.cells #[.int .i64 0, (.slice none 0 0)] 26 (0, 0))) ∧ Aside0 (w'.heap[gb190]? = some (.cells #[.int .i64 a0, u191001] 26 (0, 0))) ∧ Aside0 (Below w.heap.size w w'))
 case atStart => exact ⟨(0), (y187), (.slice Ao5 y187.length co5), (by first | rfl | (simp; done) | (simp [*]; done)), H', ⟨Nat.le_refl _⟩, ⟨by (with_reducible repeat (first | apply zF | apply zG | apply zH)); exact Kd.R_mono (Kd.R_far (p := ⟨gb190, 1, none⟩) (Kd.R_far (p := ⟨gb190, 0, none⟩) (Kd.R_types HO189.out BK190.out (by decide)) (fun _ hk => hk.2) (.int .i64 a0)) (fun _ hk => hk.2) (.slice Ao5 y187.length co5)) (fun _ hk => trivial)⟩, ⟨by (with_reducible repeat (first | refine zJ ?_ _ | refine zK ?_ | refine zI ?_ _)); refine blk_far ?_ NB186_190.out _; (with_reducible repeat (first | refine zJ ?_ _ | refine zK ?_ | refine zI ?_ _)); refine blk_far ?_ NB186_190.out _; (with_reducible repeat (first | refine zJ ?_ _ | refine zK ?_ | refine zI ?_ _)); exact BK186.out⟩, ⟨by (with_reducible repeat (first | refine zJ ?_ _ | refine zK ?_ | refine zI ?_ _)); refine blk_put (cs := #[.int .i64 a0, .slice none 0 0]) ?_ 1 _ rfl; (with_reducible repeat (first | refine zJ ?_ _ | refine zK ?_ | refine zI ?_ _)); refine blk_put (cs := #[.int .i64 0, .slice none 0 0]) ?_ 0 _ rfl; (with_reducible repeat (first | refine zJ ?_ _ | refine zK ?_ | refine zI ?_ _)); exact BK190.out⟩, ⟨zV HB.out GE186.out GE190.out⟩⟩
 case round =>
  clear H'
  try clear p2
  try clear c7
  try clear hcz8_0
  try clear hcz8_1
  try clear hfz8_0
  try clear hfz8_1
  obtain ⟨x4_1, x191001_1, u191001, rfl, HA, HK1, HO_191001, BK186, BK190, HB⟩ := hrel
  cases gk with
  | zero => exact absurd HA.out (by simp [spec_l02Free.l0])
  | succ k1 =>
   have H := HA.out
   clear HA
   simp only [spec_l02Free.l0] at H
   by_cases c9 : x4_1 < a0
   ·rw [if_pos c9] at H
    have c9b0 : decide (x4_1 < a0) = true := decide_eq_true c9
    clear c9
    obtain ⟨t191, A10, H⟩ := zb H
    try dsimp only at H
    by_cases c11 : x191001_1.length < 17592186044416
    ·rw [if_pos c11] at H
     have LMc11 := zA c11
     clear c11
     obtain ⟨y192, hy192⟩ : ∃ y_ : List Int, y_ = (x191001_1 ++ [t191]) := ⟨_, rfl⟩
     replace H : (spec_l02Free.l0 k1 a0 (wrap64 (x4_1 + 1)) a0 y192) = some (r1, r2) := zy hy192 H
     have Ny192 := zA hy192
     clear hy192
     have H' := zA H
     clear H
     try go_wp2
     replace HO_191001 := zA (zH HO_191001.out)
     replace BK186 := zA (zK BK186.out)
     replace BK190 := zA (zK BK190.out)
     replace HB := zA (zD HB.out)
     refine start_ (n := 8) (S := fun w' => w'.cell? ⟨gb190, 0, none⟩ = some (.int .i64 a0) ∧ w'.cell? ⟨gb190, 1, none⟩ = some (u191001)) (ds := [7]) #[false, false, false, false, false, false, false, false] (by kernel_rfl) rfl rfl ⟨(blk_cell BK190.out 0).trans rfl, (blk_cell BK190.out 1).trans rfl⟩ (fun hHeld => ?_); refine with_tabW spec_l02Free.tab5 spec_l02Free.bits5 (fun HT_ HW_ => ?_)
     generalize wr.drew = w12 at HO_191001 BK186 BK190 HB hHeld ⊢
     refine zp 0 (some 13) #[true, false, false, false, false, false, false, false] HT_.out ?_
     refine zp 2 (some 15) #[true, false, true, false, false, false, false, false] HT_.out ?_
     refine zc 1 (some 14) #[true, true, true, false, false, false, false, false] HT_.out HW_.out hHeld ?_
     refine one_ (i := 3) (N := some 16) #[true, true, true, true, false, false, false, false] rfl rfl (one_of HT_.out (by kernel_rfl)) (by decide) (fun K hK => ?_)
     refine goes_ Tryd.func54 (by kernel_rfl) rfl #[.int .i64 x4_1] (by rfl) rfl rfl (by (try simp only [List.map_toArray, List.map_cons, List.map_nil]); first | done | rfl | (simp only [List.length_drop, List.length_take]; rfl)) ?_
     with_reducible refine (spec_l01One.calls x4_1 t191 _ A10.out).mono ?_
     rintro e w' ⟨rfl, ⟨nd, rfl⟩⟩
     refine ⟨_, rfl, ?_⟩
     refine hK.out _ _ ⟨(blk_cell BK190.out 0).trans rfl, (blk_cell BK190.out 1).trans rfl⟩ (fun hHeld => ?_)
     clear hK K
     refine norm_ (a' := ?_) ?_ ?_
     rotate_left
     ·show Act.put _ (some 16) _ = _
      simp only [Act.put, zL, zM, zN, i64_w, i32_w]
      rfl
     refine one_ (i := 4) (N := some 17) #[true, true, true, true, true, false, false, false] rfl rfl (one_of HT_.out (by kernel_rfl)) (by decide) (fun K hK => ?_)
     refine value_ (w1 := ?_) (v := ?_) (by rfl) rfl ?_ ?_
     rotate_left 2
     ·go_simp
      constructor
      ·rfl
      rfl
     refine hK.out _ _ ⟨(blk_cell (zI BK190.out _) 0).trans rfl, (blk_cell (zI BK190.out _) 1).trans rfl⟩ (fun hHeld => ?_)
     clear hK K
     refine norm_ (a' := ?_) ?_ ?_
     rotate_left
     ·show Act.put _ (some 17) _ = _
      simp only [Act.put, zL, zM, zN, i64_w, i32_w]
      rfl
     refine one_ (i := 5) (N := some 18) #[true, true, true, true, true, true, false, false] rfl rfl (one_of HT_.out (by kernel_rfl)) (by decide) (fun K hK => ?_)
     refine Kd.R_append_step (Kd.int .i64) (w0 := w) w.heap.size (by rfl) (.tmp 14) (.tmp 17) 24 2 (.int .i64 0) 8 rfl Tryd.underlying24 info2 rfl (by decide) (by omega) u191001 x191001_1 t191 [.int .i64 t191] (fun _ => True) (fun _ => False) rfl rfl ?aP (fun _ hk => hk.elim) ?aF ?aO ?aB ?aS ?aL ?_
     (case aP => exact rfl)
     (case aB => exact (zV HB.out GE186.out GE190.out))
     (case aF => exact (fun _ _ => trivial))
     (case aO => exact (zP HO_191001.out))
     (case aS => exact (below_size (zV HB.out GE186.out GE190.out)))
     (case aL => have := LMc11.out; omega)
     intro v193 w13 ho hb hg hat
     rw [← Ny192.out] at ho
     replace BK186 := zA (blk_grown (g := gb186) (o := .cells #[.int .i64 0, .slice none 0 0] 26 (0, 0)) (zR BK186.out) hg (Kd.R_ne HO_191001.out BK186.out (by decide)))
     replace BK190 := zA (blk_grown (g := gb190) (o := .cells #[.int .i64 a0, u191001] 26 (0, 0)) (zR BK190.out) hg (Kd.R_ne HO_191001.out BK190.out (by decide)))
     replace HB := zA (hb)
     have HO194 := zA (ho)
     clear HO_191001 ho hb hg hat
     obtain ⟨Ao14, co14, eo14⟩ := Kd.R_slice HO194.out
     (first | subst eo14 | (injection eo14 with f1_ f2_ f3_; have f4_ := f1_.symm; have f5_ := f3_.symm; clear f1_ f2_ f3_; subst f4_; subst f5_))
     refine hK.out _ _ ⟨(blk_cell BK190.out 0).trans rfl, (blk_cell BK190.out 1).trans rfl⟩ (fun hHeld => ?_)
     clear hK K
     refine norm_ (a' := ?_) ?_ ?_
     rotate_left
     ·show Act.put _ (some 18) _ = _
      simp only [Act.put, zL, zM, zN, i64_w, i32_w]
      rfl
     refine zp 6 (some 19) #[true, true, true, true, true, true, true, false] HT_.out ?_
     refine last_ (i := 7) (N := none) #[true, true, true, true, true, true, true, true] rfl rfl (one_of HT_.out (by kernel_rfl)) (by decide) (fun K hK => ?_)
     have hs15 : w13.cell? ⟨gb190, 1, none⟩ = some (u191001) := (blk_cell BK190.out 1).trans rfl
     have hfs15 := blk_frozen BK190.out 1
     have hns15_0 := NB186_190.out
     have hms15_0 := NB190_186.out
     refine skip_ (w1 := ?_) (by rfl) rfl ?_ ?_
     rotate_left
     ·go_simp
      rfl
     refine hK.out _ _ ?_
     clear hK K
     refine done_ (done_of HT_.out (by kernel_rfl)) ?_
     try go_wp2
     go_roundg k1
     case measure => have := HK1.out; omega
     case rel => exact ⟨(wrap64 (x4_1 + 1)), (y192), (.slice Ao14 y192.length co14), (by first | rfl | (simp; done) | (simp [*]; done)), H', ⟨by have := HK1.out; omega⟩, ⟨by (with_reducible repeat (first | apply zF | apply zG | apply zH)); exact Kd.R_mono (Kd.R_far (p := ⟨gb190, 1, none⟩) (Kd.R_types HO194.out BK190.out (by decide)) (fun _ hk => hk.2) (.slice Ao14 y192.length co14)) (fun _ hk => trivial)⟩, ⟨by (with_reducible repeat (first | refine zJ ?_ _ | refine zK ?_ | refine zI ?_ _)); refine blk_far ?_ NB186_190.out _; (with_reducible repeat (first | refine zJ ?_ _ | refine zK ?_ | refine zI ?_ _)); exact BK186.out⟩, ⟨by (with_reducible repeat (first | refine zJ ?_ _ | refine zK ?_ | refine zI ?_ _)); refine blk_put (cs := #[.int .i64 a0, u191001]) ?_ 1 _ rfl; (with_reducible repeat (first | refine zJ ?_ _ | refine zK ?_ | refine zI ?_ _)); exact BK190.out⟩, ⟨zV HB.out GE186.out GE190.out⟩⟩
    rw [if_neg c11] at H
    exact absurd H (by simp)
   rw [if_neg c9] at H
   have c9b0 : decide (x4_1 < a0) = false := decide_eq_false c9
   clear c9
   simp only [Option.some.injEq, Prod.mk.injEq] at H
   obtain ⟨rfl, rfl⟩ := H
   have hnb16 := NB190_186.out
   have hnc16 := NB186_190.out
   have hcz17_0 : wr.cell? ⟨gb190, 0, none⟩ = some (.int .i64 a0) := (blk_cell BK190.out 0).trans rfl
   have hcz17_1 : wr.cell? ⟨gb190, 1, none⟩ = some (u191001) := (blk_cell BK190.out 1).trans rfl
   have hfz17_0 := blk_frozen BK190.out 0
   have hfz17_1 := blk_frozen BK190.out 1
   have hcz18_0 : wr.cell? ⟨gb186, 0, none⟩ = some (.int .i64 0) := (blk_cell BK186.out 0).trans rfl
   have hcz18_1 : wr.cell? ⟨gb186, 1, none⟩ = some (.slice none 0 0) := (blk_cell BK186.out 1).trans rfl
   have hfz18_0 := blk_frozen BK186.out 0
   have hfz18_1 := blk_frozen BK186.out 1
   obtain ⟨Ao19, co19, eo19⟩ := Kd.R_slice HO_191001.out
   subst eo19
   go_wp2
   refine bodyPost_ret (results_cell_row rfl _ _ gb186 26 #[.int .i64 a0, .slice Ao19 x191001_1.length co19] (0, 0) _ rfl (by (with_reducible repeat (first | refine zJ ?_ _ | refine zK ?_ | refine zI ?_ _)); refine blk_put (cs := #[.int .i64 a0, .slice none 0 0]) ?_ 1 _ rfl; (with_reducible repeat (first | refine zJ ?_ _ | refine zK ?_ | refine zI ?_ _)); refine blk_put (cs := #[.int .i64 0, .slice none 0 0]) ?_ 0 _ rfl; (with_reducible repeat (first | refine zJ ?_ _ | refine zK ?_ | refine zI ?_ _)); exact BK186.out) Tryd.underlying26 rfl (by kernel_rfl)) rfl ?_
   exact ⟨_, zr, by (with_reducible repeat (first | apply zF | apply zG | apply zH)); exact Kd.R_mono (Kd.R_far (p := ⟨gb186, 1, none⟩) (Kd.R_far (p := ⟨gb186, 0, none⟩) (Kd.R_types HO_191001.out BK186.out (by decide)) (fun _ hk => hk.2) (.int .i64 a0)) (fun _ hk => hk.2) (.slice Ao19 x191001_1.length co19)) (fun _ hk => trivial), zV HB.out GE186.out GE190.out⟩

end Go.Proofs.YtkiacoilecdepaaDoor.PAll
