-- Printed by a program of the session (wip/tools/pgen.py) out of the translation. Not trusted: Lean checks it.
import Derived.Test.YtinkolnhpgilpaaDoorPAllx0
import Derived.Test.YtinkolnhpgilpaaDoorPAllx2
namespace Go.Proofs.YtinkolnhpgilpaaDoor.PAll
open Go.RowKit Go.Proofs.YtinkolnhpgilpaaDoor.T Go.Proofs.YtinkolnhpgilpaaDoorW.PrintWords Go.Proofs.YtinkolnhpgilpaaDoorW.PrintLast Go.Proofs.YtinkolnhpgilpaaDoorW.PrintMore
attribute [local go_sem] max2_int min2_int max_two min_two max_three min_three max_four min_four   -- for this text's walks alone
set_option linter.unusedVariables false
set_option linter.unusedSimpArgs false

/-! ### slices_Index_int64_int64: function 56 -/
def slices_Index_int64_int64.l0 : Nat → List Int → Int → Int → Int → Option (Int)
 | 0, _, _, _, _ => none
 | k + 1, x0, x1, x7, x8 => if x8 < x7 then (if 0 ≤ x8 then (if x8 < (x0.length : Int) then (if x1 = (rd x0 x8) then (some x8) else (slices_Index_int64_int64.l0 k x0 x1 x7 (wrap64 (x8 + 1)))) else (none)) else (none)) else (some (-1))
def slices_Index_int64_int64.f (k : Nat) (l0 : List Int) (a1 : Int) : Option (Int) := slices_Index_int64_int64.l0 k l0 a1 (l0.length : Int) 0

set_option maxHeartbeats 8000000 in
set_option maxRecDepth 100000 in
theorem slices_Index_int64_int64.calls (k : Nat) (A0 : Option Addr) (c0 : Nat) (l0 : List Int) (a1 : Int) (r : Int) (w : World) (hr0 : Kd.C (Kd.int .i64) w A0 l0.length l0) (hc0 : l0.length ≤ c0) (h : slices_Index_int64_int64.f k l0 a1 = some r) :
  Calls Tryd.prog 56 #[.slice A0 l0.length c0, .int .i64 a1] w fun e w' => e = .returned (.int .i64 r) ∧ Drawn0 w w' := by
 have HR0 := zA hr0
 have HC0 := zA hc0
 clear hr0 hc0
 have H := h
 unfold slices_Index_int64_int64.f at H
 clear h
 have H' := zA H
 clear H
 go_enter Tryd.func56, Tryd.ntmps56
 go_wp2
 go_loopg [8] k (fun kq v8 w' => ∃ (x8_1 : Int), v8 = .int .i64 x8_1 ∧ Aside0 (slices_Index_int64_int64.l0 kq l0 a1 (l0.length : Int) x8_1 = some r) ∧ Aside0 (kq ≤ k) ∧ Drawn0 w w')
 case atStart => exact ⟨(0), zs, H', ⟨Nat.le_refl _⟩, by repeat (first | exact Drawn0.refl _ | apply Drawn0.step)⟩
 case round =>
  clear H'
  obtain ⟨x8_1, rfl, HA, HK1, ⟨m1, rfl⟩⟩ := hrel
  cases gk with
  | zero => exact absurd HA.out (by simp [slices_Index_int64_int64.l0])
  | succ k1 =>
   have H := HA.out
   clear HA
   simp only [slices_Index_int64_int64.l0] at H
   by_cases c3 : x8_1 < (l0.length : Int)
   ·rw [if_pos c3] at H
    have c3b0 : decide (x8_1 < (l0.length : Int)) = true := decide_eq_true c3
    clear c3
    by_cases c4 : 0 ≤ x8_1
    ·rw [if_pos c4] at H
     have c4b0 : decide (0 ≤ x8_1) = true := decide_eq_true c4
     clear c4
     by_cases c5 : x8_1 < (l0.length : Int)
     ·rw [if_pos c5] at H
      have c5b0 : decide (x8_1 < (l0.length : Int)) = true := decide_eq_true c5
      clear c5
      by_cases c6 : a1 = (rd l0 x8_1)
      ·rw [if_pos c6] at H
       obtain ⟨c6b0, c6b1⟩ := zT1 c6
       clear c6
       obtain rfl := Option.some.inj H
       have p262 : 0 ≤ (x8_1 : Int) := zd
       have q262 : x8_1 < (l0.length : Int) := zd
       obtain ⟨ad262, e262, hx262_0⟩ := Kd.at_int HR0.out x8_1 p262 q262
       cases e262
       replace p262 := eq_true p262
       replace q262 := eq_true q262
       go_wp2
       go_ret
       exact ⟨zs, by repeat (first | exact Drawn0.refl _ | apply Drawn0.step)⟩
      rw [if_neg c6] at H
      obtain ⟨c6b0, c6b1⟩ := zT2 c6
      have H' := zA H
      clear H
      have p262 : 0 ≤ (x8_1 : Int) := zd
      have q262 : x8_1 < (l0.length : Int) := zd
      obtain ⟨ad262, e262, hx262_0⟩ := Kd.at_int HR0.out x8_1 p262 q262
      cases e262
      replace p262 := eq_true p262
      replace q262 := eq_true q262
      go_wp2
      go_roundg k1
      case measure => have := HK1.out; omega
      case rel => exact ⟨(wrap64 (x8_1 + 1)), zs, H', ⟨by have := HK1.out; omega⟩, by repeat (first | exact Drawn0.refl _ | apply Drawn0.step)⟩
     rw [if_neg c5] at H
     exact absurd H (by simp)
    rw [if_neg c4] at H
    exact absurd H (by simp)
   rw [if_neg c3] at H
   have c3b0 : decide (x8_1 < (l0.length : Int)) = false := decide_eq_false c3
   clear c3
   obtain rfl := Option.some.inj H
   go_wp2
   go_ret
   exact ⟨zs, by repeat (first | exact Drawn0.refl _ | apply Drawn0.step)⟩

-- NOT PRINTED: function 65 (slices_Grow_int64_int64)

/-! ### slices_Concat_int64_int64: function 57: a contract of our own -/
def slices_Concat_int64_int64.f (l0 : List (List Int)) : Option (List Int) := if (l0.map List.length).sum < 17592186044416 then some l0.flatten else none
theorem pw_wrap64_id {x : Int} (h1 : -9223372036854775808 ≤ x) (h2 : x ≤ 9223372036854775807) : wrap64 x = x := by
 unfold wrap64
 omega
set_option maxHeartbeats 2000000 in
set_option maxRecDepth 100000 in
theorem grow_nil (n : Int) (h0 : 0 ≤ n) (hn : n < 17592186044416) (w : World) :
  Calls Tryd.prog 65 #[.slice none 0 0, .int .i64 n] w fun e w' => ∃ v0_ : Value, e = .returned (v0_) ∧ Kd.R (Kd.int .i64) 2 w' w.heap.size (fun _ => True) v0_ [] ∧ Below w.heap.size w w' := by
 have e0 : (n < 0) = False := by simp; omega
 by_cases hp : 0 < n
 ·have e1 : (0 < n) = True := by simp [hp]
  go_enter Tryd.func65, Tryd.ntmps65
  go_wp2_with (first | ((with_reducible refine gate_builtin (b := .append) (xs := #[.tmp 20, .tmp 21]) rfl ?_); at_builtin; refine Kd.R_append_zeros (Kd.int .i64) (w0 := w) w.heap.size rfl (.tmp 20) (.tmp 21) 22 3 2 (.int .i64 0) 8 rfl Tryd.underlying22 Tryd.underlying3 info2 rfl (by decide) (by omega) (.slice none 0 0) [] 0 n (fun _ => True) rfl rfl rfl (fun _ _ => trivial) (jO _ _ _ _ _) h0 (kW _ _) (Nat.le_refl _) (by simp; omega) ?_; intro v1 w1 ho hb hg hat; have hs := kM ho; obtain ⟨A1, c1, rfl⟩ := hs; have HO := zA (Kd.R_take ho (Nat.zero_le _)); have HB := zA hb; clear ho hb hg hat))
  go_ret
  exact ⟨_, rfl, HO.out, HB.out⟩
 have e1 : n = 0 := by omega
 subst e1
 go_enter Tryd.func65, Tryd.ntmps65
 go_wp2
 go_ret
 exact ⟨_, rfl, jO _ _ _ _ _, kW _ _⟩
theorem take_sum_step (l : List (List Int)) (k : Nat) (hk : k < l.length) : ((l.take (k + 1)).map List.length).sum = ((l.take k).map List.length).sum + (l.getD k []).length := by
 rw [List.take_add_one, List.getElem?_eq_getElem hk, List.map_append, List.sum_append]
 simp [List.getD_eq_getElem?_getD, hk]
theorem take_sum_le (l : List (List Int)) (k : Nat) : ((l.take k).map List.length).sum ≤ (l.map List.length).sum := by
 have h : (l.map List.length).sum = ((l.take k).map List.length).sum + ((l.drop k).map List.length).sum := by
  rw [← List.sum_append, ← List.map_append, List.take_append_drop]
 omega
theorem take_flatten_step (l : List (List Int)) (k : Nat) (hk : k < l.length) : (l.take (k + 1)).flatten = (l.take k).flatten ++ l.getD k [] := by
 rw [List.take_add_one, List.getElem?_eq_getElem hk, List.flatten_append]
 simp [List.getD_eq_getElem?_getD, hk]
set_option maxHeartbeats 4000000 in
set_option maxRecDepth 100000 in
theorem slices_Concat_int64_int64.calls (A0 : Option Addr) (c0 : Nat) (l0 : List (List Int)) (r : List Int) (w : World) (hr0 : Kd.C (Kd.slice 22 (Kd.int .i64)) w A0 l0.length l0) (hc0 : l0.length ≤ c0) (h : slices_Concat_int64_int64.f l0 = some r) :
  Calls Tryd.prog 57 #[.slice A0 l0.length c0] w fun e w' => ∃ v0_ : Value, e = .returned (v0_) ∧ Kd.R (Kd.int .i64) 2 w' w.heap.size (fun _ => True) v0_ r ∧ Below w.heap.size w w' := by
 unfold slices_Concat_int64_int64.f at h
 by_cases hT : (l0.map List.length).sum < 17592186044416
 ·rw [if_pos hT] at h
  obtain rfl := Option.some.inj h
  clear h hc0
  have hl : l0.length ≤ 9223372036854775807 := hr0.2.1
  have HR0 := zA hr0
  have HT := zA hT
  clear hr0 hT
  go_enter Tryd.func57, Tryd.ntmps57
  go_wp2
  go_loopg [3, 5, 11] l0.length (fun gg v3 _ v11 wr => ∃ kk : Nat, kk ≤ l0.length ∧ l0.length - kk ≤ gg ∧ v3 = .int .i64 (((l0.take kk).map List.length).sum : Nat) ∧ v11 = .int .i64 kk ∧ Aside0 (Below w.heap.size w wr))
  case atStart => exact ⟨0, Nat.zero_le _, by omega, by simp, rfl, ⟨kW _ _⟩⟩
  case round =>
   obtain ⟨kk, hkk, hg, rfl, rfl, HB⟩ := hrel
   by_cases hlt : kk < l0.length
   ·have hltz : (kk : Int) < (l0.length : Int) := by omega
    obtain ⟨ad, A1, c1, e0, hcell, hc1, hC1⟩ := at_row HR0.out kk hlt
    cases e0
    have S1 := zA (take_sum_step l0 kk hlt)
    have S2 := zA (take_sum_le l0 (kk + 1))
    replace hcell := pw_cell_below HB.out hcell
    clear hc1 hC1
    generalize hy : l0.getD kk [] = y at hcell S1
    generalize ((l0.take kk).map List.length).sum = s at S1 ⊢
    clear hy
    have hn : ¬ (wrap64 ((s : Int) + (y.length : Int)) < 0) := by
     have h1 := S1.out
     have h2 := S2.out
     have h3 := HT.out
     rw [pw_wrap64_id (by omega) (by omega)]; omega
    go_wp2
    go_roundg (l0.length - (kk + 1))
    case measure => omega
    case rel =>
     refine ⟨kk + 1, by omega, by omega, ?_, by go_num, ?_⟩
     ·rw [S1.out]
      have h1 := S1.out
      have h2 := S2.out
      have h3 := HT.out
      rw [pw_wrap64_id (by omega) (by omega)]; simp
     exact HB
   have hltz : ¬ (kk : Int) < (l0.length : Int) := by omega
   have : kk = l0.length := by omega
   subst this
   rw [List.take_length]
   have hF : ∀ kk, kk ≤ l0.length → ((l0.take kk).flatten).length ≤ (l0.map List.length).sum := fun kk _ => by
    rw [List.length_flatten]; exact take_sum_le l0 kk
   replace hF := zA hF
   generalize (l0.map List.length).sum = s at HT hF ⊢
   have hcall := grow_nil (s : Int) (by omega) (by have := HT.out; omega) wr
   replace hcall := zA hcall
   go_wp2_with fail
   refine hcall.out.mono ?_
   rintro e w1 ⟨v1, rfl, ho, hb⟩
   have HO := zA (kI ho HB.out.size)
   have HB1 := zA (kQ HB.out hb)
   clear hcall ho hb
   go_wp2
   go_loopg [6, 8, 27] l0.length (fun gg v6 _ v27 wr => ∃ kk : Nat, kk ≤ l0.length ∧ l0.length - kk ≤ gg ∧ v27 = .int .i64 kk ∧ Aside0 (Kd.R (Kd.int .i64) 2 wr w.heap.size (fun _ => True) v6 (l0.take kk).flatten) ∧ Aside0 (Below w.heap.size w wr))
   case atStart => exact ⟨0, Nat.zero_le _, by omega, rfl, ⟨by simpa using HO.out⟩, HB1⟩
   case round =>
    clear HO HB1 HB
    obtain ⟨kk, hkk, hg, rfl, HO, HB⟩ := hrel
    by_cases hlt : kk < l0.length
    ·have hltz : (kk : Int) < (l0.length : Int) := by omega
     obtain ⟨ad, A1, c1, e0, hcell, hc1, hC1⟩ := at_row HR0.out kk hlt
     cases e0
     have S1 := zA (take_flatten_step l0 kk hlt)
     have S2 := zA (hF.out (kk + 1) (by omega))
     replace hcell := pw_cell_below HB.out hcell
     replace hC1 := zA (kO hC1 HB.out)
     clear hc1
     generalize hy : l0.getD kk [] = y at hcell S1 hC1
     clear hy
     generalize hz : (l0.take kk).flatten = z at HO S1
     clear hz
     have hlen : z.length + y.length ≤ s := by
      have h2 := S2.out
      rw [S1.out, List.length_append] at h2
      exact h2
     have HLN := zA hlen
     clear hlen
     go_wp2_with (first | ((with_reducible refine gate_builtin (b := .append) (xs := #[.tmp 31, .tmp 32]) rfl ?_); at_builtin; refine Kd.R_append_rows (Kd.int .i64) (w0 := w) w.heap.size rfl (.tmp 31) (.tmp 32) 22 2 (.int .i64 0) 8 rfl Tryd.underlying22 info2 rfl (by decide) (by omega) u6 z y _ _ _ (fun _ => True) (fun _ => False) rfl rfl ?aO ?aR (fun _ _ h => h) (fun _ h => h.elim) (fun _ _ => trivial) ?aB ?aS (by have := HLN.out; have := HT.out; omega) ?_; (case aR => exact zS hC1.out); (case aO => (with_reducible repeat (first | apply zF | apply zG | apply zH)); exact HO.out); (case aB => exact zQ HB.out); (case aS => exact kP (zQ HB.out)); intro v6 w6 ho hb hg_ hat; have HO' := zA ho; have HB' := zA hb; clear ho hb hg_ hat))
     go_roundg (l0.length - (kk + 1))
     case measure => omega
     case rel => exact ⟨kk + 1, by omega, by omega, by go_num, ⟨by rw [S1.out]; exact HO'.out⟩, HB'⟩
    have hltz : ¬ (kk : Int) < (l0.length : Int) := by omega
    have : kk = l0.length := by omega
    subst this
    go_wp2
    go_ret
    refine ⟨_, rfl, ?_, HB.out⟩
    have := HO.out
    rw [List.take_length] at this
    exact this
 rw [if_neg hT] at h
 cases h

/-! ### impl_withoutFirst: function 41 -/
def slices_Index_int64_int64_BwithoutFirst.f (k : Nat) (l0 : List Int) (a1 : Int) : Option (Int) := slices_Index_int64_int64.f k l0 a1
theorem slices_Index_int64_int64_BwithoutFirst.calls (k : Nat) (A0 : Option Addr) (c0 : Nat) (l0 : List Int) (a1 : Int) (r : Int) (w : World) (hr0 : Kd.C (Kd.int .i64) w A0 l0.length l0) (hc0 : l0.length ≤ c0) (h : slices_Index_int64_int64_BwithoutFirst.f k l0 a1 = some r) :
 Calls Tryd.prog 56 #[.slice A0 l0.length c0, .int .i64 a1] w fun e w' => e = .returned (.int .i64 r) ∧ Below w.heap.size w w' := by
 refine (slices_Index_int64_int64.calls k A0 c0 l0 a1 r w hr0 hc0 h).mono ?_
 rintro e w' ⟨h1, h2⟩
 exact ⟨h1, Drawn0.below h2⟩
def impl_withoutFirst.f (k : Nat) (l0 : List Int) (a1 : Int) : Option (List Int) := (slices_Index_int64_int64_BwithoutFirst.f k l0 a1).bind fun t263 => (if 0 ≤ t263 then (if t263 ≤ (l0.length : Int) then (if 0 ≤ (wrap64 (t263 + 1)) then (if (wrap64 (t263 + 1)) ≤ (l0.length : Int) then ((slices_Concat_int64_int64.f (([(l0.take (t263 : Int).toNat), (l0.drop ((wrap64 (t263 + 1)) : Int).toNat)] : List (List Int)))).bind fun t277 => (some t277)) else (none)) else (none)) else (none)) else (none))

def impl_withoutFirst.T2 : Bool × List (List Nat × List Nat) := (true, [([], []), ([], []), ([0, 1], [0, 1]), ([], []), ([], []), ([4], [4]), ([3, 5], [3, 5]), ([2, 6], [2, 6]), ([7], [7]), ([8, 8, 0, 1, 2, 3, 4, 5, 6, 7, 8], [8])])
def impl_withoutFirst.B2 : List Nat := [0, 0, 3, 0, 0, 16, 56, 127, 255, 511]
theorem impl_withoutFirst.tab2 : rtab .any (opsOf Tryd.f41 2) = impl_withoutFirst.T2 := by kernel_rfl
theorem impl_withoutFirst.bits2 : waitsOk impl_withoutFirst.T2.2 impl_withoutFirst.B2 = true := by kernel_rfl
set_option maxHeartbeats 8000000 in
set_option maxRecDepth 100000 in
theorem impl_withoutFirst.calls (k : Nat) (P0_ : Nat → Prop) (A0 : Option Addr) (c0 : Nat) (l0 : List Int) (a1 : Int) (r : List Int) (w : World) (hs0 : Kd.V (Kd.int .i64) 2 w w.heap.size (fun k_ => P0_ k_) (.slice A0 l0.length c0) l0) (h : impl_withoutFirst.f k l0 a1 = some r) :
  Calls Tryd.prog 41 #[.slice A0 l0.length c0, .int .i64 a1] w fun e w' => ∃ v0_ : Value, e = .returned (v0_) ∧ Kd.R (Kd.int .i64) 2 w' w.heap.size (fun k_ => (w.heap.size ≤ k_)) v0_ r ∧ Below w.heap.size w w' := by
 have HO0 := zA (show Kd.V (Kd.int .i64) 2 w w.heap.size (fun k_ => (P0_ k_ ∨ w.heap.size ≤ k_)) (.slice A0 l0.length c0) l0 from kN hs0 (fun k_ hk => .inl hk))
 have HB := zA (kW w.heap.size w)
 have H := h
 unfold impl_withoutFirst.f at H
 clear h
 obtain ⟨t263, A3, H⟩ := zb H
 try dsimp only at H
 by_cases c4 : 0 ≤ t263
 ·rw [if_pos c4] at H
  have c4b0 := eq_true c4
  have c4b1 : decide (0 ≤ t263) = true := decide_eq_true c4
  clear c4
  by_cases c5 : t263 ≤ (l0.length : Int)
  ·rw [if_pos c5] at H
   have c5b0 := eq_true c5
   have c5b1 : decide (t263 ≤ (l0.length : Int)) = true := decide_eq_true c5
   clear c5
   obtain ⟨y264, hy264⟩ : ∃ y_ : List Int, y_ = (l0.take (t263 : Int).toNat) := ⟨_, rfl⟩
   replace H : (if 0 ≤ (wrap64 (t263 + 1)) then (if (wrap64 (t263 + 1)) ≤ (l0.length : Int) then ((slices_Concat_int64_int64.f (([y264, (l0.drop ((wrap64 (t263 + 1)) : Int).toNat)] : List (List Int)))).bind fun t277 => (some t277)) else (none)) else (none)) = some r := zy hy264 H
   have Ny264 := zA hy264
   clear hy264
   obtain ⟨ji6, hji6⟩ : ∃ j_ : Int, (wrap64 (t263 + 1)) = j_ := ⟨_, rfl⟩
   replace H : (if 0 ≤ (ji6) then (if (ji6) ≤ (l0.length : Int) then ((slices_Concat_int64_int64.f (([y264, (l0.drop ((ji6) : Int).toNat)] : List (List Int)))).bind fun t277 => (some t277)) else (none)) else (none)) = some r := by first | (rw [hji6] at H; exact H) | (simp only [hji6] at H ⊢; exact H)
   (try rw [hji6] at A3)
   have hji6w : (IntKind.i64.wrap (t263 + 1)) = ji6 := (i64_w _).trans hji6
   by_cases c7 : 0 ≤ (ji6)
   ·rw [if_pos c7] at H
    have c7b0 := eq_true c7
    have c7b1 : decide (0 ≤ (ji6)) = true := decide_eq_true c7
    clear c7
    by_cases c8 : (ji6) ≤ (l0.length : Int)
    ·rw [if_pos c8] at H
     have c8b0 := eq_true c8
     have c8b1 : decide ((ji6) ≤ (l0.length : Int)) = true := decide_eq_true c8
     clear c8
     obtain ⟨y269, hy269⟩ : ∃ y_ : List Int, y_ = (l0.drop ((ji6) : Int).toNat) := ⟨_, rfl⟩
     replace H : ((slices_Concat_int64_int64.f (([y264, y269] : List (List Int)))).bind fun t277 => (some t277)) = some r := zy hy269 H
     have Ny269 := zA hy269
     clear hy269
     obtain ⟨y274, hy274⟩ : ∃ y_ : List (List Int), y_ = (([y264, y269] : List (List Int))) := ⟨_, rfl⟩
     replace H : ((slices_Concat_int64_int64.f y274).bind fun t277 => (some t277)) = some r := zy hy274 H
     have Ny274 := zA hy274
     clear hy274
     obtain ⟨t277, A9, H⟩ := zb H
     try dsimp only at H
     obtain rfl := Option.some.inj H
     go_enter Tryd.func41, Tryd.ntmps41
     try go_wp2_with (first | (refine zO (some 8) Tryd.func56 #[.slice A0 l0.length c0, .int .i64 a1] ?_; (with_reducible refine (slices_Index_int64_int64_BwithoutFirst.calls k _ _ l0 a1 t263 _ ?side1 ?side2 A3.out).mono ?_); (case side1 => exact zS (kJ HO0.out).2.2); (case side2 => exact (kJ HO0.out).2.1); rintro e w10 ⟨rfl, hb⟩; refine ⟨_, rfl, ?_⟩; replace HO0 := zA (kG (zPV HO0.out) hb); replace HB := zA (kQ (zQ HB.out) hb); (try clear hb)))
     replace HO0 := zA (Kd.V_drew HO0.out)
     replace HB := zA (zD HB.out)
     have q12 : (t263 : Int) ≤ ((l0.length : Int) : Int) := zd
     obtain ⟨i012, hi012, _, hsz12, _⟩ := info_parts info2
     have hroom12 : l0.length ≤ c0 := (kJ HO0.out).2.1
     have hC12 : Kd.F (Kd.int .i64) _ _ A0 l0.length l0 := (Kd.V_at (base := w.heap.size) HO0.out).2.2
     have hcut12 := cut_to (P := Tryd.prog) 22 2 .i64 Tryd.underlying22 hi012 A0 l0.length c0 t263 (zd) q12 hroom12
     have hr12 := Kd.F_take (m := (t263 : Int).toNat) hC12 (by omega)
     have hy12 : y264.length = (t263 : Int).toNat := (by rw [Ny264.out, List.length_take]; omega)
     rw [← Ny264.out] at hr12
     rw [← hy12] at hcut12
     have HO268 := zA (show Kd.V (Kd.int .i64) 2 _ w.heap.size _ (.slice A0 y264.length c0) y264 from Kd.V_mk (by omega) hr12)
     have HC268 := zA (show y264.length ≤ c0 from by omega)
     clear hr12 hC12 hroom12 hi012 hsz12
     have KY12 := zA hy12
     clear hy12
     replace q12 := eq_true q12
     have q13 : ((ji6) : Int) ≤ ((l0.length : Int) : Int) := zd
     obtain ⟨i013, hi013, _, hsz13, _⟩ := info_parts info2
     have hroom13 : l0.length ≤ c0 := (kJ HO0.out).2.1
     have hC13 : Kd.F (Kd.int .i64) _ _ A0 l0.length l0 := (Kd.V_at (base := w.heap.size) HO0.out).2.2
     have q013 : (0 : Int) ≤ ((ji6) : Int) := zd
     have hcut13 := cut_from (P := Tryd.prog) 22 2 .i64 Tryd.underlying22 hi013 1 hsz13 A0 l0.length c0 (ji6) q013 q13
     have hr13 := Kd.F_cut (m := ((ji6) : Int).toNat) (c := c0) hC13 (by omega) hroom13
     obtain ⟨A13, hA13⟩ : ∃ A1, A1 = (if c0 = ((ji6) : Int).toNat then A0 else (A0 : Option Addr).map (·.add (((ji6) : Int).toNat * 1))) := ⟨_, rfl⟩
     obtain ⟨c13, hc13⟩ : ∃ c1, c1 = c0 - ((ji6) : Int).toNat := ⟨_, rfl⟩
     have hy13 : y269.length = l0.length - ((ji6) : Int).toNat := (by rw [Ny269.out, List.length_drop] <;> omega)
     rw [show (l0).drop ((ji6) : Int).toNat = y269 from Ny269.out.symm] at hr13
     replace hr13 : Kd.F (Kd.int .i64) _ _ A13 y269.length y269 := (by rw [hA13]; exact hr13)
     rw [← hy13, ← hA13, ← hc13] at hcut13
     have HO273 := zA (show Kd.V (Kd.int .i64) 2 _ w.heap.size _ (.slice A13 y269.length c13) y269 from Kd.V_mk (by rw [hy13, hc13]; exact Nat.sub_le_sub_right hroom13 _) hr13)
     have HC273 := zA (show y269.length ≤ c13 from by rw [hy13, hc13]; exact Nat.sub_le_sub_right hroom13 _)
     clear hr13 hC13 hroom13 hi013 hsz13 hc13
     have KY13 := zA hy13
     have KA13 := zA hA13
     clear hy13 hA13
     replace q13 := eq_true q13
     refine start_ (n := 10) (S := fun w' => True) (ds := []) #[false, false, false, false, false, false, false, false, false, false] (by kernel_rfl) rfl rfl trivial (fun hHeld => ?_); refine with_tabW impl_withoutFirst.tab2 impl_withoutFirst.bits2 (fun HT_ HW_ => ?_)
     generalize w10.drew = w11 at HO0 HB HO268 HO273 hHeld ⊢
     refine zp 0 (some 9) #[true, false, false, false, false, false, false, false, false, false] HT_.out ?_
     refine zp 1 (some 10) #[true, true, false, false, false, false, false, false, false, false] HT_.out ?_
     refine zp 2 (some 11) #[true, true, true, false, false, false, false, false, false, false] HT_.out ?_
     refine zp 3 (some 12) #[true, true, true, true, false, false, false, false, false, false] HT_.out ?_
     refine zp 4 (some 13) #[true, true, true, true, true, false, false, false, false, false] HT_.out ?_
     refine zp 5 (some 14) #[true, true, true, true, true, true, false, false, false, false] HT_.out ?_
     refine zp 6 (some 15) #[true, true, true, true, true, true, true, false, false, false] HT_.out ?_
     refine one_ (i := 7) (N := some 16) #[true, true, true, true, true, true, true, true, false, false] rfl rfl (one_of HT_.out (by kernel_rfl)) (by decide) (fun K hK => ?_)
     refine Kd.N_lit_step (Kd.slice 2 (Kd.int .i64)) _ 22 ?hg (N' := 16) ?hd (xs := ([y264, y269] : List (List Int))) (inner := [.slice A0 y264.length c0, .slice A13 y269.length c13]) (ok := (fun k_ => (P0_ k_ ∨ w.heap.size ≤ k_))) (okp := (fun k_ => (P0_ k_ ∨ w.heap.size ≤ k_))) ?hr ?hp (fun _ hk => hk) ((show ∀ k_ : Nat, (_ : Nat) ≤ k_ → (fun k_ => (P0_ k_ ∨ w.heap.size ≤ k_)) k_ from fun k_ hk => (.inr (Nat.le_trans (kP (zQ HB.out)) hk))) _ (Nat.le_refl _)) (kW _ _) (Nat.le_refl _) (by simp) ?_; (case hd => rfl); (case hg => rfl); (case hr => first | (go_simp; done) | (go_simp; rfl)); (case hp => exact (Reps.one (show Kd.FK (Kd.slice 2 (Kd.int .i64)) _ _ y264 [.slice A0 y264.length c0] from (zFK (kN (ok' := (fun k_ => (P0_ k_ ∨ w.heap.size ≤ k_))) (HO268.out) (fun k_ hk => hk)))) (Reps.one (show Kd.FK (Kd.slice 2 (Kd.int .i64)) _ _ y269 [.slice A13 y269.length c13] from (zFK (kN (ok' := (fun k_ => (P0_ k_ ∨ w.heap.size ≤ k_))) (HO273.out) (fun k_ hk => hk)))) (Reps.none _ _))))
     intro v275 w14 ho15 hb hg_ hnew_
     clear hg_ hnew_
     (first | rw [← Ny274.out] at ho15 | (simp only [Int.reduceToNat] at ho15; rw [← Ny274.out] at ho15))
     replace HO0 := zA (kK (zPV HO0.out) (Kd.N_base ho15) hb)
     replace HO268 := zA (kK (zPV HO268.out) (Kd.N_base ho15) hb)
     replace HO273 := zA (kK (zPV HO273.out) (Kd.N_base ho15) hb)
     have HO276 := zA (jN ho15 (kP (zQ HB.out)))
     replace HB := zA (kQ (zQ HB.out) hb)
     clear hb ho15
     obtain ⟨Ao16, co16, eo16⟩ := Kd.N_slice HO276.out
     (first | subst eo16 | (injection eo16 with f1_ f2_ f3_; have f4_ := f1_.symm; have f5_ := f3_.symm; clear f1_ f2_ f3_; subst f4_; subst f5_))
     refine hK.out _ _ trivial (fun hHeld => ?_)
     clear hK K
     refine norm_ (a' := ?_) ?_ ?_
     rotate_left
     ·show Act.put _ (some 16) _ = _
      simp only [Act.put, zL, zM, zN, i64_w, i32_w]
      rfl
     refine one_ (i := 8) (N := some 17) #[true, true, true, true, true, true, true, true, true, false] rfl rfl (one_of HT_.out (by kernel_rfl)) (by decide) (fun K hK => ?_)
     refine goes_ Tryd.func57 (by kernel_rfl) rfl #[.slice Ao16 y274.length co16] (by rfl) rfl rfl zg ?_
     with_reducible refine (slices_Concat_int64_int64.calls _ _ y274 t277 _ ?side1 ?side2 A9.out).mono ?_
     (case side1 => exact zS (Kd.N_reads' HO276.out).2.2)
     (case side2 => exact (Kd.N_reads' HO276.out).2.1)
     rintro e w17 ⟨v278, rfl, ho0, hb⟩
     refine ⟨_, rfl, ?_⟩
     replace HO0 := zA (kK (zPV HO0.out) (kC ho0) hb)
     replace HO268 := zA (kK (zPV HO268.out) (kC ho0) hb)
     replace HO273 := zA (kK (zPV HO273.out) (kC ho0) hb)
     replace HO276 := zA (Kd.N_elder' (zPN HO276.out) (kC ho0) hb)
     have HO279 := zA (kI (Kd.R_newM (M := fun k_ => (w.heap.size ≤ k_)) ho0 (kP (zQ HB.out)) (fun k_ h_ => h_)) (kP (zQ HB.out)))
     replace HB := zA (kQ (zQ HB.out) hb)
     (try clear hb)
     (try clear hb2)
     (try clear hk)
     (try clear hi)
     (try clear hgw)
     (try clear ho0)
     refine hK.out _ _ trivial (fun hHeld => ?_)
     clear hK K
     refine norm_ (a' := ?_) ?_ ?_
     rotate_left
     ·show Act.put _ (some 17) _ = _
      simp only [Act.put, zL, zM, zN, i64_w, i32_w]
      rfl
     refine zp 9 (some 4) #[true, true, true, true, true, true, true, true, true, true] HT_.out ?_
     refine done_ (done_of HT_.out (by kernel_rfl)) ?_
     try go_wp2
     go_ret
     exact ⟨_, by first | rfl | (simp [errW_none, errW_some] <;> rfl) | (simp only [← hji6]; first | rfl | (simp [errW_none, errW_some] <;> rfl)) | (simp [*, errW_none, errW_some] <;> rfl), by (with_reducible repeat (first | apply zF | apply zG | apply zH)); exact kA HO279.out (fun _ hk => hk.1), zQ HB.out⟩
    rw [if_neg c8] at H
    exact absurd H (by simp)
   rw [if_neg c7] at H
   exact absurd H (by simp)
  rw [if_neg c5] at H
  exact absurd H (by simp)
 rw [if_neg c4] at H
 exact absurd H (by simp)

/-! ### impl_ties_normal: function 25 -/
def impl_ties_normal.l0 : Nat → List Int → List Int → List Int → Option (List Int)
 | 0, _, _, _ => none
 | k + 1, x0, x5, x6 => if (x6.length : Int) > 0 then ((impl_ties_firsts.f k x0 x6).bind fun t283 => ((impl_least.f t283).bind fun t284 => (if x5.length < 17592186044416 then ((impl_withoutFirst.f k x6 t284).bind fun t288 => (impl_ties_normal.l0 k x0 (x5 ++ [t284]) t288)) else (none)))) else (some x5)
def impl_ties_normal.f (k : Nat) (l0 : List Int) (l1 : List Int) : Option (List Int) := if 0 ≤ (l1.length : Int) then (if ((l1.length : Int) : Int).toNat ≤ 35184372088832 then (impl_ties_normal.l0 k l0 (([] : List Int)) l1) else (none)) else (none)

set_option maxHeartbeats 8000000 in
set_option maxRecDepth 100000 in
theorem impl_ties_normal.calls (k : Nat) (A0 : Option Addr) (c0 : Nat) (l0 : List Int) (P1_ : Nat → Prop) (A1 : Option Addr) (c1 : Nat) (l1 : List Int) (r : List Int) (w : World) (hr0 : Kd.C (Kd.int .i64) w A0 l0.length l0) (hc0 : l0.length ≤ c0) (hs1 : Kd.V (Kd.int .i64) 2 w w.heap.size (fun k_ => P1_ k_) (.slice A1 l1.length c1) l1) (hT : TabW w) (h : impl_ties_normal.f k l0 l1 = some r) :
  Calls Tryd.prog 25 #[.slice A0 l0.length c0, .slice A1 l1.length c1] w fun e w' => ∃ v0_ : Value, e = .returned (v0_) ∧ Kd.R (Kd.int .i64) 2 w' w.heap.size (fun k_ => (w.heap.size ≤ k_)) v0_ r ∧ Below w.heap.size w w' := by
 have HT := zA hT
 clear hT
 have HR0 := zA hr0
 have HC0 := zA hc0
 clear hr0 hc0
 have HO1 := zA (show Kd.V (Kd.int .i64) 2 w w.heap.size (fun k_ => (P1_ k_ ∨ w.heap.size ≤ k_)) (.slice A1 l1.length c1) l1 from kN hs1 (fun k_ hk => .inl hk))
 have HB := zA (kW w.heap.size w)
 have H := h
 unfold impl_ties_normal.f at H
 clear h
 by_cases c3 : 0 ≤ (l1.length : Int)
 ·rw [if_pos c3] at H
  have c3b0 := eq_true c3
  have c3b1 : decide (0 ≤ (l1.length : Int)) = true := decide_eq_true c3
  clear c3
  by_cases c4 : ((l1.length : Int) : Int).toNat ≤ 35184372088832
  ·rw [if_pos c4] at H
   have c4b0 := eq_true c4
   have c4b1 : decide (((l1.length : Int) : Int).toNat ≤ 35184372088832) = true := decide_eq_true c4
   clear c4
   obtain ⟨y280, hy280⟩ : ∃ y_ : List Int, y_ = (([] : List Int)) := ⟨_, rfl⟩
   replace H : (impl_ties_normal.l0 k l0 y280 l1) = some r := zy hy280 H
   have Ny280 := zA hy280
   clear hy280
   have H' := zA H
   clear H
   go_enter Tryd.func25, Tryd.ntmps25
   go_wp2_with (first | ((with_reducible refine kS (N := 10) rfl ?_); refine Kd.R_make0 (Kd.int .i64) _ 2 rfl (N := 10) rfl 22 _ _ rfl (l1.length : Int) rfl rfl Tryd.underlying22 (.int .i64 0) 8 info2 rfl (by decide) (by omega) 0 (ok := fun _ => True) (okp := fun _ => True) rfl (fun _ hk => hk) trivial (zd) (Nat.le_trans (Nat.mul_le_mul_right _ (zd : (l1.length : Int).toNat ≤ 35184372088832)) (by omega)) (kW _ _) (Nat.le_refl _) ?_; intro v281 w5 ho6 hb hg_ hnew_; clear hg_ hnew_; (first | rw [← Ny280.out] at ho6 | (simp only [Int.reduceToNat] at ho6; rw [← Ny280.out] at ho6)); replace HO1 := zA (kK (zPV HO1.out) (kC ho6) hb); have HO282 := zA (kI (Kd.R_newM (M := fun k_ => (w.heap.size ≤ k_)) ho6 (kP (zQ HB.out)) (fun k_ h_ => h_)) (kP (zQ HB.out))); replace HB := zA (kQ (zQ HB.out) hb); clear hb ho6))
   go_loopg [5, 6] k (fun kq v5 v6 w' => ∃ (x5_1 : List Int) (x6_1 : List Int), Aside0 (impl_ties_normal.l0 kq l0 x5_1 x6_1 = some r) ∧ Aside0 (kq ≤ k) ∧ Aside0 (Kd.R (Kd.int .i64) 2 w' w.heap.size (fun k_ => (w.heap.size ≤ k_)) v5 x5_1) ∧ Aside0 (Kd.V (Kd.int .i64) 2 w' w.heap.size (fun k_ => (P1_ k_ ∨ w.heap.size ≤ k_) ∧ some k_ ≠ (v5 : Value).ownBlock) v6 x6_1) ∧ Aside0 (Below w.heap.size w w'))
   case atStart => exact ⟨(y280), (l1), H', ⟨Nat.le_refl _⟩, ⟨zPM HO282.out (fun _ hk => hk.1)⟩, ⟨zPV HO1.out⟩, ⟨zQ HB.out⟩⟩
   case round =>
    clear H'
    try clear c1
    try clear c2
    try clear c3
    try clear c4
    obtain ⟨x5_1, x6_1, HA, HK1, HO_5, HO_6, HB⟩ := hrel
    cases gk with
    | zero => exact absurd HA.out (by simp [impl_ties_normal.l0])
    | succ k1 =>
     have H := HA.out
     clear HA
     simp only [impl_ties_normal.l0] at H
     by_cases c7 : (x6_1.length : Int) > 0
     ·rw [if_pos c7] at H
      have c7b0 : decide (0 < (x6_1.length : Int)) = true := decide_eq_true c7
      have c7b1 : decide (0 < x6_1.length) = true := decide_eq_true (by omega)
      clear c7
      obtain ⟨t283, A8, H⟩ := zb H
      try dsimp only at H
      obtain ⟨t284, A9, H⟩ := zb H
      try dsimp only at H
      by_cases c10 : x5_1.length < 17592186044416
      ·rw [if_pos c10] at H
       have LMc10 := zA c10
       clear c10
       obtain ⟨y285, hy285⟩ : ∃ y_ : List Int, y_ = (x5_1 ++ [t284]) := ⟨_, rfl⟩
       replace H : ((impl_withoutFirst.f k1 x6_1 t284).bind fun t288 => (impl_ties_normal.l0 k1 l0 y285 t288)) = some r := zy hy285 H
       have Ny285 := zA hy285
       clear hy285
       obtain ⟨t288, A11, H⟩ := zb H
       try dsimp only at H
       have H' := zA H
       clear H
       obtain ⟨Ao12, co12, eo12⟩ := Kd.V_slice HO_6.out
       subst eo12
       go_wp2_with (first | (refine zO (some 17) Tryd.func40 #[.slice A0 l0.length c0, .slice Ao12 x6_1.length co12] ?_; (with_reducible refine (impl_ties_firsts.calls k1 _ _ l0 _ _ x6_1 t283 _ ?side1 ?side2 ?side3 ?side4 A8.out).mono ?_); (case side1 => exact zS (kO HR0.out HB.out)); (case side2 => exact HC0.out); (case side3 => exact zS (kJ HO_6.out).2.2); (case side4 => exact (kJ HO_6.out).2.1); rintro e w' ⟨rfl, ⟨nd, rfl⟩⟩; refine ⟨_, rfl, ?_⟩) | (refine zO (some 18) Tryd.func39 #[.int .i64 t283] ?_; (with_reducible refine (impl_least.calls t283 t284 _ ?side1 A9.out).mono ?_); (case side1 => exact TabW.below HT.out (zQ HB.out)); rintro e w' ⟨rfl, ⟨nd, rfl⟩⟩; refine ⟨_, rfl, ?_⟩) | ((with_reducible refine gate_builtin (b := .append) (xs := #[.tmp 19, .tmp 21]) rfl ?_); at_builtin; refine Kd.R_append (Kd.int .i64) (w0 := w) w.heap.size rfl (.tmp 19) (.tmp 21) 22 2 (.int .i64 0) 8 rfl Tryd.underlying22 info2 rfl (by decide) (by omega) u5 x5_1 t284 [.int .i64 t284] (fun k_ => (w.heap.size ≤ k_)) (fun _ => False) rfl rfl ?aP (fun _ hk => hk.elim) ?aF ?aO ?aB ?aS ?aL ?_; (case aP => exact rfl); (case aB => exact (zQ HB.out)); (case aF => exact (fun k_ hk => (Nat.le_trans (kP (zQ HB.out)) hk))); (case aO => exact (zP HO_5.out)); (case aS => exact (kP (zQ HB.out))); (case aL => have := LMc10.out; omega); intro v286 w13 ho hb hg hat; rw [← Ny285.out] at ho; replace HO_6 := zA (Kd.V_afterv (ok := (fun k_ => (P1_ k_ ∨ w.heap.size ≤ k_))) (zPV HO_6.out) hg hat); replace HB := zA (hb); have HO287 := zA (ho); clear HO_5; clear ho hb hg hat) | (refine zO (some 25) Tryd.func41 #[.slice Ao12 x6_1.length co12, .int .i64 t284] ?_; (with_reducible refine (impl_withoutFirst.calls k1 (fun k_ => ((P1_ k_ ∨ w.heap.size ≤ k_) ∧ some k_ ≠ (v286 : Value).ownBlock)) _ _ x6_1 t284 t288 _ ?side1 A11.out).mono ?_); (case side1 => exact HO_6.out); rintro e w14 ⟨v289, rfl, ho0, hb⟩; refine ⟨_, rfl, ?_⟩; replace HO_6 := zA (kK (zPV HO_6.out) (kC ho0) hb); have HO290 := zA (kI (kF (Kd.R_newM (M := fun k_ => (w.heap.size ≤ k_)) (kA (ok' := fun k_ => True) ho0 (fun _ hk_ => trivial)) (kP (zQ HB.out)) (fun k_ h_ => h_)) (kH (zP HO287.out))) (kP (zQ HB.out))); replace HO287 := zA (kE (zP HO287.out) (kC ho0) hb); replace HB := zA (kQ (zQ HB.out) hb); (try clear hb); (try clear ho0)))
       go_roundg k1
       case measure => have := HK1.out; omega
       case rel => exact ⟨(y285), (t288), H', ⟨by have := HK1.out; omega⟩, ⟨zPM HO287.out (fun _ hk => hk.1)⟩, ⟨kN (jL (zP HO290.out)) (fun k_ hk => by first | exact ⟨(.inr (hk.1.1)), hk.2⟩ | exact ⟨(.inr (hk.1)), hk.2⟩ | exact (.inr (hk)))⟩, ⟨zQ HB.out⟩⟩
      rw [if_neg c10] at H
      exact absurd H (by simp)
     rw [if_neg c7] at H
     have c7b0 : decide (0 < (x6_1.length : Int)) = false := decide_eq_false c7
     have c7b1 : decide (0 < x6_1.length) = false := decide_eq_false (by omega)
     clear c7
     obtain rfl := Option.some.inj H
     obtain ⟨Ao15, co15, eo15⟩ := Kd.V_slice HO_6.out
     subst eo15
     go_wp2
     go_ret
     exact ⟨_, zr, zP HO_5.out, zQ HB.out⟩
  rw [if_neg c4] at H
  exact absurd H (by simp)
 rw [if_neg c3] at H
 exact absurd H (by simp)

/-! ### slices_Clone_int64_int64: function 29: a contract of our own -/
def slices_Clone_int64_int64.f (l0 : List Int) : Option (List Int) := if l0.length < 17592186044416 then some l0 else none
set_option maxHeartbeats 2000000 in
set_option maxRecDepth 100000 in
theorem slices_Clone_int64_int64.calls (A0 : Option Addr) (c0 : Nat) (l0 : List Int) (r : List Int) (w : World) (hr0 : Kd.C (Kd.int .i64) w A0 l0.length l0) (hc0 : l0.length ≤ c0) (h : slices_Clone_int64_int64.f l0 = some r) :
  Calls Tryd.prog 29 #[.slice A0 l0.length c0] w fun e w' => ∃ v0_ : Value, e = .returned (v0_) ∧ Kd.R (Kd.int .i64) 2 w' w.heap.size (fun _ => True) v0_ r ∧ Below w.heap.size w w' := by
 unfold slices_Clone_int64_int64.f at h
 by_cases hl : l0.length < 17592186044416
 ·rw [if_pos hl] at h
  obtain rfl := Option.some.inj h
  clear h
  have HR0 := zA hr0
  have HL := zA hl
  have qnil : ∀ (w : World) (a : Option Addr) (n c n' c' : Nat), (binOp .eql 22 (.slice a n c) (.slice none n' c')).run Tryd.prog w = .ok (.bool a.isNone) w := fun w a n c n' c' => Lib.run_eql_slice_nil w _ _ a n c n' c' Tryd.underlying22
  cases A0 with
  | none =>
   have hz : l0 = [] := by
    rcases Nat.eq_zero_or_pos l0.length with e | e
    ·exact List.eq_nil_of_length_eq_zero e
    obtain ⟨ad, e1, _⟩ := hr0.2.2 e
    cases e1
   subst hz
   clear hr0 hl hc0
   go_enter Tryd.func29, Tryd.ntmps29
   go_wp2
   go_ret
   exact ⟨_, rfl, jO _ _ _ _ _, kW _ _⟩
  | some ad =>
   clear hr0 hl hc0
   go_enter Tryd.func29, Tryd.ntmps29
   go_wp2_with (first | ((with_reducible refine kS (N := 5) rfl ?_); refine Kd.R_lit (Kd.int .i64) _ 2 ?hg (N := 5) ?hd (xs := ([] : List Int)) (inner := []) (ok := fun _ => True) (okp := fun _ => True) ?hr ?hp (fun _ hk => hk) trivial (kW _ _) (Nat.le_refl _) (by simp) ?_; (case hd => rfl); (case hg => rfl); (case hr => first | (go_simp; done) | (go_simp; rfl)); (case hp => exact (Reps.none _ _)); intro v5 w5 ho hb hg_ hnew_; clear hg_ hnew_; have HO := zA ho; have HB := zA hb; clear ho hb) | ((with_reducible refine gate_builtin (b := .append) (xs := #[.tmp 5, .tmp 6]) rfl ?_); at_builtin; refine Kd.R_append_rows (Kd.int .i64) (w0 := w) w.heap.size rfl (.tmp 5) (.tmp 6) 22 2 (.int .i64 0) 8 rfl Tryd.underlying22 info2 rfl (by decide) (by omega) v5 [] l0 _ _ _ (fun _ => True) (fun _ => False) rfl rfl HO.out (kO HR0.out HB.out) (fun _ _ h => h) (fun _ h => h.elim) (fun _ _ => trivial) HB.out HB.out.size (by have := HL.out; simp; omega) ?_; intro v6 w6 ho hb hg hat; have HO' := zA ho; have HB' := zA hb; clear ho hb hg hat HO HB))
   go_ret
   exact ⟨_, rfl, HO'.out, HB'.out⟩
 rw [if_neg hl] at h
 cases h

/-! ### impl_wordKey: function 50 -/
def impl_wordKey.l0 : Nat → List Int → List Int → Int → Int → Option (ByteArray)
 | 0, _, _, _, _ => none
 | k + 1, x3, x9, x10, x11 => if x11 < x10 then (if 0 ≤ x11 then (if x11 < (x9.length : Int) then (if x11 < (x3.length : Int) then (impl_wordKey.l0 k (x3.set (x11 : Int).toNat ((rd x9 x11) % 256)) x9 x10 (wrap64 (x11 + 1))) else (none)) else (none)) else (none)) else (some (strOfNums x3))
def impl_wordKey.f (k : Nat) (l0 : List Int) : Option (ByteArray) := if 0 ≤ (l0.length : Int) then (if ((l0.length : Int) : Int).toNat ≤ 281474976710656 then (impl_wordKey.l0 k (List.replicate ((l0.length : Int) : Int).toNat 0) l0 (l0.length : Int) 0) else (none)) else (none)

set_option maxHeartbeats 8000000 in
set_option maxRecDepth 100000 in
theorem impl_wordKey.calls (k : Nat) (A0 : Option Addr) (c0 : Nat) (l0 : List Int) (r : ByteArray) (w : World) (hr0 : Kd.C (Kd.int .i64) w A0 l0.length l0) (hc0 : l0.length ≤ c0) (h : impl_wordKey.f k l0 = some r) :
  Calls Tryd.prog 50 #[.slice A0 l0.length c0] w fun e w' => e = .returned (.string r) ∧ Below w.heap.size w w' := by
 have HR0 := zA hr0
 have HC0 := zA hc0
 clear hr0 hc0
 have HB := zA (kW w.heap.size w)
 have H := h
 unfold impl_wordKey.f at H
 clear h
 by_cases c2 : 0 ≤ (l0.length : Int)
 ·rw [if_pos c2] at H
  have c2b0 := eq_true c2
  have c2b1 : decide (0 ≤ (l0.length : Int)) = true := decide_eq_true c2
  clear c2
  by_cases c3 : ((l0.length : Int) : Int).toNat ≤ 281474976710656
  ·rw [if_pos c3] at H
   have c3b0 := eq_true c3
   have c3b1 : decide (((l0.length : Int) : Int).toNat ≤ 281474976710656) = true := decide_eq_true c3
   clear c3
   obtain ⟨y291, hy291⟩ : ∃ y_ : List Int, y_ = (List.replicate ((l0.length : Int) : Int).toNat 0) := ⟨_, rfl⟩
   replace H : (impl_wordKey.l0 k y291 l0 (l0.length : Int) 0) = some r := zy hy291 H
   have Ny291 := zA hy291
   clear hy291
   have H' := zA H
   clear H
   go_enter Tryd.func50, Tryd.ntmps50
   go_wp2_with (first | ((with_reducible refine kS (N := 8) rfl ?_); refine Kd.R_make (Kd.int .u8) _ 5 rfl (N := 8) rfl 79 _ _ rfl (l0.length : Int) rfl rfl Tryd.underlying79 (.int .u8 0) 1 info5 rfl (by decide) (by omega) 0 (ok := fun _ => True) (okp := fun _ => True) rfl (fun _ hk => hk) trivial (zd) (Nat.le_trans (Nat.mul_le_mul_right _ (zd : (l0.length : Int).toNat ≤ 281474976710656)) (by omega)) (kW _ _) (Nat.le_refl _) ?_; intro v292 w4 ho5 hb hg_ hnew_; clear hg_ hnew_; (first | rw [← Ny291.out] at ho5 | (simp only [Int.reduceToNat] at ho5; rw [← Ny291.out] at ho5)); have HO293 := zA (kI ho5 (kP (zQ HB.out))); replace HB := zA (kQ (zQ HB.out) hb); clear hb ho5))
   go_loopg [11] k (fun kq v11 w' => ∃ (x3_1 : List Int) (x11_1 : Int), v11 = .int .i64 x11_1 ∧ Aside0 (impl_wordKey.l0 kq x3_1 l0 (l0.length : Int) x11_1 = some r) ∧ Aside0 (kq ≤ k) ∧ Aside0 (Kd.R (Kd.int .u8) 5 w' w.heap.size (fun _ => True) v292 x3_1) ∧ Aside0 (Below w.heap.size w w'))
   case atStart => exact ⟨(y291), (0), zs, H', ⟨Nat.le_refl _⟩, ⟨zP HO293.out⟩, ⟨zQ HB.out⟩⟩
   case round =>
    clear H'
    try clear c2
    try clear c3
    try clear c5
    obtain ⟨x3_1, x11_1, rfl, HA, HK1, HO_3, HB⟩ := hrel
    cases gk with
    | zero => exact absurd HA.out (by simp [impl_wordKey.l0])
    | succ k1 =>
     have H := HA.out
     clear HA
     simp only [impl_wordKey.l0] at H
     by_cases c6 : x11_1 < (l0.length : Int)
     ·rw [if_pos c6] at H
      have c6b0 : decide (x11_1 < (l0.length : Int)) = true := decide_eq_true c6
      clear c6
      by_cases c7 : 0 ≤ x11_1
      ·rw [if_pos c7] at H
       have c7b0 : decide (0 ≤ x11_1) = true := decide_eq_true c7
       clear c7
       by_cases c8 : x11_1 < (l0.length : Int)
       ·rw [if_pos c8] at H
        have c8b0 : decide (x11_1 < (l0.length : Int)) = true := decide_eq_true c8
        clear c8
        by_cases c9 : x11_1 < (x3_1.length : Int)
        ·rw [if_pos c9] at H
         have c9b0 : decide (x11_1 < (x3_1.length : Int)) = true := decide_eq_true c9
         clear c9
         obtain ⟨y295, hy295⟩ : ∃ y_ : List Int, y_ = (x3_1.set (x11_1 : Int).toNat ((rd l0 x11_1) % 256)) := ⟨_, rfl⟩
         replace H : (impl_wordKey.l0 k1 y295 l0 (l0.length : Int) (wrap64 (x11_1 + 1))) = some r := zy hy295 H
         have Ny295 := zA hy295
         clear hy295
         have H' := zA H
         clear H
         have p294 : 0 ≤ (x11_1 : Int) := zd
         have q294 : x11_1 < (l0.length : Int) := zd
         obtain ⟨ad294, e294, hx294_0⟩ := Kd.at_int HR0.out x11_1 p294 q294
         cases e294
         replace hx294_0 := (HB.out.cell (jG w _ hx294_0)).trans hx294_0
         replace p294 := eq_true p294
         replace q294 := eq_true q294
         have p10 : 0 ≤ (x11_1 : Int) := zd
         have q10 : (x11_1 : Int) < ((x3_1.length : Int) : Int) := zd
         obtain ⟨go10, co10, eo10, gb10, gl10, cl10, HG10⟩ := Kd.R_form HO_3.out (by omega)
         (first | cases eo10 | (injection eo10 with ea_ en_ ec_; (first | subst ea_ | (injection ea_ with ea_; subst ea_)); subst ec_; clear en_))
         have GB10 := zA gb10
         have GG10 := zA HG10
         clear gb10 gl10 HG10
         obtain ⟨hx10_0, hf10_0⟩ := Kd.R_celln 0 HO_3.out (x11_1 : Int) p10 q10
         replace p10 := eq_true p10
         replace q10 := eq_true q10
         have HP11 := Kd.R_putg HO_3.out (x11_1 : Int) ((rd l0 x11_1) % 256)
         go_wp2_with (first | ((with_reducible refine gate_store (t := 5) (p := 20) rfl ?_); refine store_event (t := 5) (p := 20) (v := ?vo_w12) (w1 := (wr.setCell ⟨go10, (x11_1 : Int).toNat, none⟩ (.int .u8 ((rd l0 x11_1) % 256)))) ?hg ?ho ?hn ?hr ?_; (case ho => rfl); (case hg => rfl); (case hn => rfl); (case hr => first | (go_simp; done) | (go_simp; rfl)); intro w12 hw; have hg : wr.grownBy w12 (some go10) := (by rw [hw]; exact HP11.2); have hp_ : Kd.R (Kd.int .u8) 5 w12 w.heap.size (fun _ => True) (.slice (some ⟨go10, 0, none⟩) x3_1.length co10) y295 := (by rw [hw, Ny295.out]; exact HP11.1); clear HP11; replace HO_3 := zA (hp_); replace HB := zA ((by rw [hw]; exact zE (HB.out) GB10.out : Below w.heap.size w w12)); clear hg hw hp_))
         go_roundg k1
         case measure => have := HK1.out; omega
         case rel => exact ⟨(y295), (wrap64 (x11_1 + 1)), zs, H', ⟨by have := HK1.out; omega⟩, ⟨zP HO_3.out⟩, ⟨zQ HB.out⟩⟩
        rw [if_neg c9] at H
        exact absurd H (by simp)
       rw [if_neg c8] at H
       exact absurd H (by simp)
      rw [if_neg c7] at H
      exact absurd H (by simp)
     rw [if_neg c6] at H
     have c6b0 : decide (x11_1 < (l0.length : Int)) = false := decide_eq_false c6
     clear c6
     obtain rfl := Option.some.inj H
     have hcv13 := own_string (P := Tryd.prog) Tryd.underlying79 Tryd.underlying5 Tryd.underlying9 (Kd.own_of_R HO_3.out)
     go_wp2
     go_ret
     exact ⟨zr, zQ HB.out⟩
  rw [if_neg c3] at H
  exact absurd H (by simp)
 rw [if_neg c2] at H
 exact absurd H (by simp)

/-! ### impl_ties_rotated: function 52 -/
def impl_ties_rotated.f (k : Nat) (l0 : List Int) (l1 : List Int) (a2 : Int) : Option (List Int) := (impl_withoutFirst.f k l1 a2).bind fun t296 => (if t296.length < 17592186044416 then ((impl_ties_normal.f k l0 (t296 ++ [a2])).bind fun t302 => (some t302)) else (none))

set_option maxHeartbeats 8000000 in
set_option maxRecDepth 100000 in
theorem impl_ties_rotated.calls (k : Nat) (A0 : Option Addr) (c0 : Nat) (l0 : List Int) (A1 : Option Addr) (c1 : Nat) (l1 : List Int) (a2 : Int) (r : List Int) (w : World) (hr0 : Kd.C (Kd.int .i64) w A0 l0.length l0) (hc0 : l0.length ≤ c0) (hr1 : Kd.C (Kd.int .i64) w A1 l1.length l1) (hc1 : l1.length ≤ c1) (hT : TabW w) (h : impl_ties_rotated.f k l0 l1 a2 = some r) :
  Calls Tryd.prog 52 #[.slice A0 l0.length c0, .slice A1 l1.length c1, .int .i64 a2] w fun e w' => ∃ v0_ : Value, e = .returned (v0_) ∧ Kd.R (Kd.int .i64) 2 w' w.heap.size (fun _ => True) v0_ r ∧ Below w.heap.size w w' := by
 have HT := zA hT
 clear hT
 have HR0 := zA hr0
 have HC0 := zA hc0
 clear hr0 hc0
 have HR1 := zA hr1
 have HC1 := zA hc1
 clear hr1 hc1
 have HB := zA (kW w.heap.size w)
 have H := h
 unfold impl_ties_rotated.f at H
 clear h
 obtain ⟨t296, A4, H⟩ := zb H
 try dsimp only at H
 by_cases c5 : t296.length < 17592186044416
 ·rw [if_pos c5] at H
  have LMc5 := zA c5
  clear c5
  obtain ⟨y299, hy299⟩ : ∃ y_ : List Int, y_ = (t296 ++ [a2]) := ⟨_, rfl⟩
  replace H : ((impl_ties_normal.f k l0 y299).bind fun t302 => (some t302)) = some r := zy hy299 H
  have Ny299 := zA hy299
  clear hy299
  obtain ⟨t302, A6, H⟩ := zb H
  try dsimp only at H
  obtain rfl := Option.some.inj H
  go_enter Tryd.func52, Tryd.ntmps52
  go_wp2_with (first | (refine zO (some 10) Tryd.func41 #[.slice A1 l1.length c1, .int .i64 a2] ?_; (with_reducible refine (impl_withoutFirst.calls k (fun k_ => k_ < w.heap.size) _ _ l1 a2 t296 _ ?side1 A4.out).mono ?_); (case side1 => exact Kd.V_mk HC1.out (Kd.F_below (Kd.C_F (Kd.heap_int .i64) HR1.out) (zQ HB.out))); rintro e w7 ⟨v297, rfl, ho0, hb⟩; refine ⟨_, rfl, ?_⟩; have HO298 := zA (kI (kA (ok' := fun k_ => True) ho0 (fun _ hk_ => trivial)) (kP (zQ HB.out))); replace HB := zA (kQ (zQ HB.out) hb); (try clear hb); (try clear ho0)) | ((with_reducible refine gate_builtin (b := .append) (xs := #[.tmp 10, .tmp 12]) rfl ?_); at_builtin; refine Kd.R_append (Kd.int .i64) (w0 := w) w.heap.size rfl (.tmp 10) (.tmp 12) 22 2 (.int .i64 0) 8 rfl Tryd.underlying22 info2 rfl (by decide) (by omega) v297 t296 a2 [.int .i64 a2] (fun _ => True) (fun _ => False) rfl rfl ?aP (fun _ hk => hk.elim) ?aF ?aO ?aB ?aS ?aL ?_; (case aP => exact rfl); (case aB => exact (zQ HB.out)); (case aF => exact (fun _ _ => trivial)); (case aO => exact (zP HO298.out)); (case aS => exact (kP (zQ HB.out))); (case aL => have := LMc5.out; omega); intro v300 w8 ho hb hg hat; rw [← Ny299.out] at ho; replace HB := zA (hb); have HO301 := zA (ho); clear HO298; clear ho hb hg hat; obtain ⟨Ao9, co9, eo9⟩ := kM HO301.out; subst eo9) | (refine zO (some 14) Tryd.func25 #[.slice A0 l0.length c0, .slice Ao9 y299.length co9] ?_; (with_reducible refine (impl_ties_normal.calls k _ _ l0 (fun k_ => some k_ = (.slice Ao9 y299.length co9 : Value).ownBlock) _ _ y299 t302 _ ?side1 ?side2 ?side3 ?side4 A6.out).mono ?_); (case side1 => exact zS (kO HR0.out HB.out)); (case side2 => exact HC0.out); (case side3 => exact jL (jK rfl (HO301.out))); (case side4 => exact TabW.below HT.out (zQ HB.out)); rintro e w10 ⟨v303, rfl, ho0, hb⟩; refine ⟨_, rfl, ?_⟩; have HO304 := zA (kI (kF (kA (ok' := fun k_ => True) ho0 (fun _ hk_ => trivial)) (kH (zP HO301.out))) (kP (zQ HB.out))); replace HO301 := zA (kE (zP HO301.out) (kC ho0) hb); replace HB := zA (kQ (zQ HB.out) hb); (try clear hb); (try clear ho0)))
  go_ret
  exact ⟨_, zr, by (with_reducible repeat (first | apply zF | apply zG | apply zH)); exact kA HO304.out (fun _ hk => trivial), zQ HB.out⟩
 rw [if_neg c5] at H
 exact absurd H (by simp)

/-! ### impl_ties_conjugates: function 35: a contract of our own -/
def impl_ties_conjugates.l1 : Nat → List Int → List S60 → Int → List Int → Int → List (List UInt8) → Option (List S60 × List (List UInt8) × Bool)
 | 0, _, _, _, _, _, _ => none
 | k + 1, D, out, i, ms, j, seen => if j < (ms.length : Int) then (if 0 ≤ j then ((impl_ties_rotated.f k D (out.getD i.toNat ⟨[], []⟩).f0 (rd ms j)).bind fun nx => ((impl_wordKey.f k nx).bind fun key => (if key.data.toList ∈ seen then (if (out.length : Int) > 1000 then some (out, seen, true) else impl_ties_conjugates.l1 k D out i ms (wrap64 (j + 1)) seen) else (if (out.getD i.toNat ⟨[], []⟩).f1.length < 1000000000 then (if ((out ++ [(⟨nx, (out.getD i.toNat ⟨[], []⟩).f1 ++ [rd ms j]⟩ : S60)]).length : Int) > 1000 then some (out ++ [⟨nx, (out.getD i.toNat ⟨[], []⟩).f1 ++ [rd ms j]⟩], key.data.toList :: seen, true) else impl_ties_conjugates.l1 k D (out ++ [⟨nx, (out.getD i.toNat ⟨[], []⟩).f1 ++ [rd ms j]⟩]) i ms (wrap64 (j + 1)) (key.data.toList :: seen)) else none)))) else none) else some (out, seen, false)
def impl_ties_conjugates.l0 : Nat → List Int → List S60 → Int → List (List UInt8) → Option (List S60)
 | 0, _, _, _, _ => none
 | k + 1, D, out, i, seen => if i < (out.length : Int) then (if 0 ≤ i then ((impl_ties_firsts.f k D (out.getD i.toNat ⟨[], []⟩).f0).bind fun m => ((impl_members.f k m).bind fun ms => ((impl_ties_conjugates.l1 k D out i ms 0 seen).bind fun bt => if bt.2.2 = true then some bt.1 else impl_ties_conjugates.l0 k D bt.1 (wrap64 (i + 1)) bt.2.1))) else none) else some out
def impl_ties_conjugates.f (k : Nat) (D : List Int) (w : List Int) : Option (List S60) := (impl_ties_normal.f k D w).bind fun nm => ((impl_wordKey.f k nm).bind fun key => impl_ties_conjugates.l0 k D [⟨nm, []⟩] 0 [key.data.toList])
/-- seen keys as a map: what is there is true -/
def MapS (w : World) (b : Nat) (s : List (List UInt8)) : Prop := MapW Tryd.prog 9 4 Lit.string Lit.bool false (fun a => a.length ≤ maxLen) w b s.length (fun a => decide (a ∈ s)) (fun a => decide (a ∈ s))
theorem MapS_put {w : World} {b : Nat} {s : List (List UInt8)} {a : List UInt8} (hn : a ∉ s) (h : MapW Tryd.prog 9 4 Lit.string Lit.bool false (fun a => a.length ≤ maxLen) w b (if (decide (a ∈ s)) = true then s.length else s.length + 1) (fun c => if c = a then true else decide (c ∈ s)) (fun c => if c = a then true else decide (c ∈ s))) : MapS w b (a :: s) := by
 rw [if_neg (by simpa using hn)] at h
 have e : (fun c => if c = a then true else decide (c ∈ s)) = fun c => decide (c ∈ a :: s) := funext fun c => by
  by_cases g : c = a
  ·simp [g]
  simp [g]
 rw [e] at h
 exact h
theorem MapS_first {w : World} {b : Nat} {a : List UInt8} (h : MapW Tryd.prog 9 4 Lit.string Lit.bool false (fun a => a.length ≤ maxLen) w b (if (fun (_ : List UInt8) => false) a then 0 else 0 + 1) (fun c => if c = a then true else (fun (_ : List UInt8) => false) c) (fun c => if c = a then true else (fun (_ : List UInt8) => false) c)) : MapS w b [a] := by
 have e : (fun c : List UInt8 => if c = a then true else (fun (_ : List UInt8) => false) c) = fun c => decide (c ∈ [a]) := funext fun c => by
  by_cases g : c = a
  ·simp [g]
  simp [g]
 rw [e] at h
 exact h
theorem litstr_inj (a c : List UInt8) (h : Lit.string a = Lit.string c) : a = c := by simpa using h
theorem zero_boolD (w : World) : (zeroValue 4).run Tryd.prog w = .ok (.bool false) w := by kernel_rfl
theorem wpList_mw_insB {κ ε : Type} {P : Program} {k e : TypeId} {kf : κ → Lit} {ef : ε → Lit} {z : ε} {ok : κ → Prop} {w : World} {b n : Nat} {S : κ → Bool} {F : κ → ε} {ops : Array Oper} {rest : List Oper} {o : Oper} {A : Act} {Q : Exit → Act → World → Prop} [DecidableEq κ] (hg : o.guard = none) (m x v : Operand) (t : TypeId) (hop : o.op = Op.insert t m x v) (K : Go.Maps.Keyed P k) (hinj : ∀ a c, kf a = kf c → a = c) (hkl : ∀ a, WideAt.IsKeyLit (kf a)) (ht : P.underlying t = some (.map k e))
  (h : MapW P k e kf ef z ok w b n S F) (hn : n < maxLen) (hm : A.eval m = .map (some b)) (a : κ) (ha : ok a) (key val : Value) (hx : A.eval x = key) (hv : A.eval v = val) (hkey : keyOf P k key = some (kf a)) (y : ε) (hval : plainElem (H := Unit) P e val = some (.lit (ef y), []))
  (hK : ∀ w', MapW P k e kf ef z ok w' b (if S a then n else n + 1) (fun c => if c = a then true else S c) (fun c => if c = a then y else F c) → w.grownBy w' (some b) → wpList P ops Q rest (A.put o.dst undef) w') : wpList P ops Q (o :: rest) A w := by
 refine wpList_plain hg fun K' hK' => ?_
 obtain ⟨w', hrun, r1, r2⟩ := h.put K hinj hkl ht hn a y ha hkey hval
 unfold Oper.wp
 simp [execOp, hop, hm, hx, hv, hrun, Result.andThen]
 exact hK' _ _ (hK w' r1 r2)
theorem wordKey_size (k : Nat) : ∀ (x3 x9 : List Int) (x10 x11 : Int) (r : ByteArray), impl_wordKey.l0 k x3 x9 x10 x11 = some r → r.size = x3.length := by
 induction k with
 | zero => intro x3 x9 x10 x11 r h; simp [impl_wordKey.l0] at h
 | succ k ih =>
  intro x3 x9 x10 x11 r h
  simp only [impl_wordKey.l0] at h
  repeat' split at h
  ·have := ih _ _ _ _ _ h
   simpa using this
  all_goals (first | (cases h; done) | (rw [← Option.some.inj h, strOfNums_size]))
theorem wordKey_le {k : Nat} {l : List Int} {r : ByteArray} (h : impl_wordKey.f k l = some r) : r.size ≤ maxLen := by
 unfold impl_wordKey.f at h
 split at h
 ·split at h
  ·rename_i h1
   have := wordKey_size _ _ _ _ _ _ h
   simp only [List.length_replicate] at this
   unfold maxLen
   omega
  cases h
 cases h
theorem info60c : (Tryd.prog.info? 60).map (fun i => (i.zero, i.size, i.bytes)) = some (some (.agg #[.slice none 0 0, .slice none 0 0]), 2, 48) := by kernel_rfl
theorem key_ok {s : ByteArray} (h : s.size ≤ maxLen) : s.data.toList.length ≤ maxLen := by
 rw [Array.length_toList]
 exact h
/-- what holds in the loops: the map (block b) and the conjugates found up to now -/
def CjI (w : World) (b : Nat) (W : World) (s : List (List UInt8)) (v : Value) (x : List S60) : Prop :=
 MapS W b s ∧ Kd.S k60 60 W w.heap.size (fun k_ => k_ ≠ b) v x ∧ Below w.heap.size w W ∧ w.heap.size ≤ b
theorem CjI.below {w : World} {b : Nat} {W w1 : World} {s : List (List UInt8)} {v : Value} {x : List S60} (h : CjI w b W s v x) (hb : Below W.heap.size W w1) : CjI w b w1 s v x :=
 ⟨MapW.below h.1 hb, Kd.S_below h.2.1 hb, Below.grown h.2.2.1 (grown_of_below hb none) h.2.2.1.size (fun j hj => by cases hj), h.2.2.2⟩
theorem CjI.drawn {w : World} {b : Nat} {W w1 : World} {s : List (List UInt8)} {v : Value} {x : List S60} (h : CjI w b W s v x) (hd : Drawn0 W w1) : CjI w b w1 s v x := by
 obtain ⟨n, rfl⟩ := hd
 exact h.below (zC (kW _ _) n)
/-- and in the inner loop: the letters -/
def CjJ (w : World) (b : Nat) (Nm : Nat) (vm : Value) (ms : List Int) (W : World) (s : List (List UInt8)) (v : Value) (x : List S60) : Prop :=
 CjI w b W s v x ∧ Kd.R (Kd.int .i64) 2 W Nm (fun _ => True) vm ms
section
variable {w : World} {b : Nat} {Nm : Nat} {vm : Value} {ms : List Int} {W w1 : World} {s : List (List UInt8)} {v : Value} {x : List S60}
theorem CjJ.below (h : CjJ w b Nm vm ms W s v x) (hb : Below W.heap.size W w1) : CjJ w b Nm vm ms w1 s v x :=
 ⟨h.1.below hb, kL h.2 hb⟩
theorem CjJ.drawn (h : CjJ w b Nm vm ms W s v x) (hd : Drawn0 W w1) : CjJ w b Nm vm ms w1 s v x := by
 obtain ⟨n, rfl⟩ := hd
 exact h.below (zC (kW _ _) n)
theorem R_over_mapS {e base : Nat} {ok : Nat → Prop} {u : Value} {xs : List Int} (h : Kd.R (Kd.int .i64) e W base ok u xs) (hm : MapS W b s) (hg : W.grownBy w1 (some b)) : Kd.R (Kd.int .i64) e w1 base ok u xs :=
 Kd.R_grown1 h rfl hg (fun e => by
  obtain ⟨cells, hc⟩ := Kd.R_typed h b e.symm
  exact hm.ne_cells hc rfl)
theorem CjJ.put (h : CjJ w b Nm vm ms W s v x) {a : List UInt8} (hm : MapS w1 b (a :: s)) (hg : W.grownBy w1 (some b)) : CjJ w b Nm vm ms w1 (a :: s) v x :=
 ⟨⟨hm, Kd.S_grown h.1.2.1 hg (fun k hk e => hk (Option.some.inj e)), Below.grown h.1.2.2.1 hg h.1.2.2.1.size (fun j hj => by cases hj; exact h.1.2.2.2), h.1.2.2.2⟩,
  R_over_mapS h.2 h.1.1 hg⟩
theorem CjJ.app (h : CjJ w b Nm vm ms W s v x) {v1 : Value} {y : S60} (hn : Kd.S k60 60 w1 w.heap.size (fun k_ => k_ ≠ b) v1 (x ++ [y])) (hg : W.grownBy w1 v.ownBlock) : CjJ w b Nm vm ms w1 s v1 (x ++ [y]) := by
 have hb := Kd.S_base h.1.2.1
 have hne : some b ≠ v.ownBlock := Kd.S_away h.1.2.1 (fun _ hk => hk)
 refine ⟨⟨h.1.1.kept hg hne, hn, Below.grown h.1.2.2.1 hg h.1.2.2.1.size hb, h.1.2.2.2⟩, ?_⟩
 cases hv : v.ownBlock with
 | none =>
  rw [hv] at hg
  exact kL h.2 (Below.grown (kW _ _) hg (Nat.le_refl _) (fun j hj => by cases hj))
 | some j =>
  rw [hv] at hg
  refine Kd.R_grown1 h.2 rfl hg (fun e => ?_)
  obtain ⟨c1, e1⟩ := Kd.S_typed h.1.2.1 j hv
  obtain ⟨c2, e2⟩ := Kd.R_typed h.2 j e.symm
  rw [e1] at e2
  simp at e2
end
set_option maxHeartbeats 8000000 in
set_option maxRecDepth 100000 in
theorem impl_ties_conjugates.calls (k : Nat) (A0 : Option Addr) (c0 : Nat) (l0 : List Int) (A1 : Option Addr) (c1 : Nat) (l1 : List Int) (r : List S60) (w : World) (hr0 : Kd.C (Kd.int .i64) w A0 l0.length l0) (hc0 : l0.length ≤ c0) (hr1 : Kd.C (Kd.int .i64) w A1 l1.length l1) (hc1 : l1.length ≤ c1) (hT : TabW w) (h : impl_ties_conjugates.f k l0 l1 = some r) :
  Calls Tryd.prog 35 #[.slice A0 l0.length c0, .slice A1 l1.length c1] w fun e w' => ∃ v0_ : Value, e = .returned v0_ ∧ Kd.N k60 60 w' w.heap.size (fun k_ => w.heap.size ≤ k_) v0_ r ∧ Below w.heap.size w w' := by
 have law : Go.Maps.Keyed Tryd.prog 9 := Go.Maps.string_keyed Tryd.underlying9
 have hmm := @run_makeMap Tryd.prog
 have HR0 := zA hr0
 have HC0 := zA hc0
 have HR1 := zA hr1
 have HC1 := zA hc1
 have HT := zA hT
 have H := h
 unfold impl_ties_conjugates.f at H
 obtain ⟨nm, h1, H⟩ := Option.bind_eq_some_iff.1 H
 obtain ⟨key, h2, H⟩ := Option.bind_eq_some_iff.1 H
 have H1 := zA h1
 have H2 := zA h2
 have H' := zA H
 clear h h1 h2 H hr0 hr1 hc0 hc1 hT
 go_enter Tryd.func35, Tryd.ntmps35
 go_wp2_with (first | (refine zO (some 14) Tryd.func25 #[.slice A0 l0.length c0, .slice A1 l1.length c1] ?_; (with_reducible refine (impl_ties_normal.calls k _ _ l0 (fun _ => True) _ _ l1 nm _ ?side1 ?side2 ?side3 ?side4 H1.out).mono ?_); (case side1 => exact HR0.out); (case side2 => exact HC0.out); (case side3 => exact Kd.V_mk HC1.out (Kd.F_mono (Kd.C_F (Kd.heap_int .i64) HR1.out) (fun _ _ => trivial))); (case side4 => exact HT.out); rintro e w1 ⟨v14, rfl, ho0, hb⟩; refine ⟨_, rfl, ?_⟩; obtain ⟨A14, c14, e14⟩ := kM ho0; subst e14; have HN := zA ho0; have HB := zA hb; clear ho0 hb) | ((with_reducible refine kS (N := 16) rfl ?_); refine Kd.S_lits k60 (w0 := w) w.heap.size 60 ?hg (N := 16) ?hd (xs := [⟨nm, []⟩]) (inner := [.slice A14 nm.length c14, .slice none 0 0]) (ok := fun _ => True) (fun j_ k_ => j_ = 0) ?hr (by rfl) ?hp (fun _ _ _ h1 h2 => h1.trans h2.symm) (fun _ _ _ => trivial) trivial HB.out HB.out.size (by simp) ?_; (case hd => rfl); (case hg => rfl); (case hr => first | (go_simp; done) | (go_simp; rfl)); (case hp => exact fun j_ x_ hx_ => by cases j_ with | zero => (cases hx_; exact k60_mkM _ _ _ _ (kA (HN.out) (fun _ _ => rfl)) (jO _ _ _ _ _)) | succ j_ => simp at hx_); intro v16 w2 hs hb hg2 hat; obtain ⟨A16, c16, e16⟩ := Kd.S_slice hs; subst e16; have HS := zA hs; replace HB := zA hb; clear hs hb hg2 hat; obtain ⟨ad, Aw, cw, Ay, cy, e1, hcw, hcy, hw, hCw, _, _⟩ := at_T60 (Kd.S_reads' HS.out).2.2 0 (by decide) (by simp); subst e1; have hw2 : (w2.alloc (Obj.map #[] 0)).cell? ad = some (.slice Aw nm.length cw) := pw_cell_below (zB (kW _ w2) _) (show w2.cell? ad = some (.slice Aw nm.length cw) from hcw); have HLW := zA (show nm.length ≤ cw from hw); have HCW := zA (show Kd.C (Kd.int .i64) w2 Aw nm.length nm from hCw); clear hw hcy hcw hCw) | (refine zO (some 22) Tryd.func50 #[.slice Aw nm.length cw] ?_; (with_reducible refine (impl_wordKey.calls k _ _ nm key _ ?side1 ?side2 H2.out).mono ?_); (case side1 => exact kO HCW.out (zB (kW _ _) _)); (case side2 => exact HLW.out); rintro e w3 ⟨rfl, hb⟩; refine ⟨_, rfl, ?_⟩; have HM := zA (MapW.below (MapW.made (P := Tryd.prog) (k := 9) (e := 4) (kf := Lit.string) (ef := Lit.bool) (z := false) (ok := fun a => a.length ≤ maxLen) w2) hb); have HS2 := zA (Kd.S_below (Kd.S_alloc (Kd.S_mono (Kd.S_bound HS.out) (ok' := fun k_ => k_ ≠ w2.heap.size) (fun k_ hk_ => Nat.ne_of_lt hk_.2.2.1)) (Obj.map #[] 0)) hb); have HB2 := zA (Below.grown (zB HB.out (Obj.map #[] 0)) (grown_of_below hb none) (zB HB.out (Obj.map #[] 0)).size (fun j hj => by cases hj)); have HLE := zA HB.out.size; clear hb) | (refine wpList_mw_insB rfl (.tmp 17) (.tmp 22) (.const (.bool true)) 71 rfl law litstr_inj (fun _ => trivial) Tryd.underlying71 HM.out (by decide) rfl key.data.toList (key_ok (wordKey_le H2.out)) _ _ rfl rfl (Go.WideMaps.keyOf_string_mk Tryd.underlying9 (wordKey_le H2.out)) true (plainElem_bool Tryd.underlying4 true) ?_; intro w4 hm1 hg1; have HI := zA (show CjI w w2.heap.size w4 [key.data.toList] _ [⟨nm, []⟩] from ⟨MapS_first hm1, Kd.S_grown HS2.out hg1 (fun k_ hk_ e_ => hk_ (Option.some.inj e_)), Below.grown HB2.out hg1 HB2.out.size (fun j hj => by cases hj; exact HLE.out), HLE.out⟩); clear hm1 hg1 HS HS2 HB HB2 HM HCW HLW HN))
 clear hw2 H1 H2
 go_loopg [5, 7] k (fun gg v5 v7 wr => ∃ (x : List S60) (s : List (List UInt8)) (i : Int), v7 = .int .i64 i ∧ Aside0 (impl_ties_conjugates.l0 gg l0 x i s = some r) ∧ Aside0 (gg ≤ k) ∧ Aside0 (CjI w w2.heap.size wr s v5 x) ∧ Aside0 (s.length = x.length ∧ x.length ≤ 1000))
 case atStart => exact ⟨[⟨nm, []⟩], [key.data.toList], 0, rfl, H', ⟨Nat.le_refl _⟩, HI, ⟨rfl, by simp⟩⟩
 case round =>
  clear H' HI
  obtain ⟨x, s, i, rfl, HA, HK, HI, HX⟩ := hrel
  cases gk with
  | zero => exact absurd HA.out (by simp [impl_ties_conjugates.l0])
  | succ k1 =>
   have H := HA.out
   clear HA
   simp only [impl_ties_conjugates.l0] at H
   obtain ⟨A5, c5, e5⟩ := Kd.S_slice HI.out.2.1
   subst e5
   by_cases q1 : i < (x.length : Int)
   ·rw [if_pos q1] at H
    have q1b : decide (i < (x.length : Int)) = true := decide_eq_true q1
    by_cases q2 : 0 ≤ i
    ·rw [if_pos q2] at H
     have q2b : decide (0 ≤ i) = true := decide_eq_true q2
     obtain ⟨ad5, Aw, cw, Ay, cy, eA, hcw, hcy, hlw, hCw, hly, hCy⟩ := at_T60 (Kd.S_reads' HI.out.2.1).2.2 i q2 q1
     subst eA
     obtain ⟨p, hp⟩ : ∃ p, p = rd_T60 x i := ⟨_, rfl⟩
     rw [← hp] at hcw hcy hlw hCw hly hCy
     rw [show x.getD i.toNat ⟨[], []⟩ = p from hp.symm] at H
     have HCW := zA hCw
     have HLW := zA hlw
     have HP := zA hp
     clear hcy hlw hCw hly hCy hp
     obtain ⟨m, h1, H⟩ := Option.bind_eq_some_iff.1 H
     obtain ⟨ms, h2, H⟩ := Option.bind_eq_some_iff.1 H
     obtain ⟨⟨X3, S3, B3⟩, h3, H⟩ := Option.bind_eq_some_iff.1 H
     have H1 := zA h1
     have H2 := zA h2
     have H3 := zA h3
     have HRR := zA H
     clear h1 h2 h3 H
     have HIX := zA (show 0 ≤ i ∧ i < (x.length : Int) from ⟨q2, q1⟩)
     replace q1 := eq_true q1
     replace q2 := eq_true q2
     go_wp2_with (first | (refine zO (some 36) Tryd.func40 #[.slice A0 l0.length c0, .slice Aw p.f0.length cw] ?_; (with_reducible refine (impl_ties_firsts.calls k1 _ _ l0 _ _ p.f0 m _ ?side1 ?side2 ?side3 ?side4 H1.out).mono ?_); (case side1 => exact kO HR0.out HI.out.2.2.1); (case side2 => exact HC0.out); (case side3 => exact HCW.out); (case side4 => exact HLW.out); rintro e w5 ⟨rfl, hd⟩; refine ⟨_, rfl, ?_⟩; have HI2 := zA (HI.out.drawn hd); clear hd) | (refine zO (some 37) Tryd.func51 #[.int .i64 m] ?_; (with_reducible refine (impl_members.calls k1 m ms _ ?side1 H2.out).mono ?_); (case side1 => exact TabW.below HT.out HI2.out.2.2.1); rintro e w6 ⟨v37, rfl, ho0, hb⟩; refine ⟨_, rfl, ?_⟩; obtain ⟨Am, cm, em⟩ := kM ho0; subst em; have HJ := zA (show CjJ w w2.heap.size w5.heap.size (.slice Am ms.length cm) ms w6 s (.slice (some ad5) x.length c5) x from ⟨HI2.out.below hb, ho0⟩); clear ho0 hb))
     clear HI HI2 HCW HLW hcw
     generalize w5.heap.size = Nm at HJ
     go_loopg [5, 39] k1 (fun gg v5 v39 w' => ∃ (x2 : List S60) (s2 : List (List UInt8)) (j : Int), v39 = .int .i64 j ∧ Aside0 (impl_ties_conjugates.l1 gg l0 x2 i ms j s2 = some (X3, S3, B3)) ∧ Aside0 (gg ≤ k1) ∧ Aside0 (CjJ w w2.heap.size Nm (.slice Am ms.length cm) ms w' s2 v5 x2) ∧ Aside0 (s2.length = x2.length ∧ x2.length ≤ 1000 ∧ i < (x2.length : Int)))
     case atStart => exact ⟨x, s, 0, rfl, H3, ⟨Nat.le_refl _⟩, HJ, ⟨HX.out.1, HX.out.2, HIX.out.2⟩⟩
     case round =>
      clear H3 HJ HX HP
      obtain ⟨x2, s2, j, rfl, HA, HK2, HJ, HY⟩ := hrel
      cases gk with
      | zero => exact absurd HA.out (by simp [impl_ties_conjugates.l1])
      | succ k2 =>
       have H := HA.out
       clear HA
       simp only [impl_ties_conjugates.l1] at H
       obtain ⟨A5', c5', e5'⟩ := Kd.S_slice HJ.out.1.2.1
       subst e5'
       by_cases q3 : j < (ms.length : Int)
       ·rw [if_pos q3] at H
        have q3b : decide (j < (ms.length : Int)) = true := decide_eq_true q3
        by_cases q4 : 0 ≤ j
        ·rw [if_pos q4] at H
         have q4b : decide (0 ≤ j) = true := decide_eq_true q4
         obtain ⟨ad6, Aw, cw, Ay, cy, eA, hcw, hcy, hlw, hCw, hly, hCy⟩ := at_T60 (Kd.S_reads' HJ.out.1.2.1).2.2 i HIX.out.1 HY.out.2.2
         subst eA
         obtain ⟨p, hp⟩ : ∃ p, p = rd_T60 x2 i := ⟨_, rfl⟩
         rw [← hp] at hcw hcy hlw hCw hly hCy
         rw [show x2.getD i.toNat ⟨[], []⟩ = p from hp.symm] at H
         have HCW := zA hCw
         have HLW := zA hlw
         have HP := zA hp
         clear hcy hlw hCw hly hCy hp
         obtain ⟨nx, h4, H⟩ := Option.bind_eq_some_iff.1 H
         obtain ⟨key, h5, H⟩ := Option.bind_eq_some_iff.1 H
         have H4 := zA h4
         have H5 := zA h5
         clear h4 h5
         obtain ⟨ad2, eA2, hcell2⟩ := Kd.at_int (kB HJ.out.2).2.2 j q4 q3
         subst eA2
         have HZ := zA (Kd.S_mono (Kd.S_bound HJ.out.1.2.1) (ok' := fun k_ => k_ ≠ w2.heap.size ∧ k_ < wr.heap.size) (fun k_ hk_ => ⟨hk_.1, hk_.2.2.1⟩))
         have HWS := zA (show w.heap.size ≤ wr.heap.size ∧ w2.heap.size < wr.heap.size ∧ (∀ k_, (Value.slice (some ad6) x2.length c5').ownBlock = some k_ → k_ < wr.heap.size) from ⟨HJ.out.1.2.2.1.size, MapW.lt HJ.out.1.1, Kd.S_lt HJ.out.1.2.1⟩)
         have q5 := eq_true HIX.out.1
         have q6 := eq_true HY.out.2.2
         replace q3 := eq_true q3
         replace q4 := eq_true q4
         by_cases q7 : key.data.toList ∈ s2
         ·rw [if_pos q7, if_neg (by have := HY.out; omega)] at H
          have HN := zA H
          have HD := zA (show decide (key.data.toList ∈ s2) = true from decide_eq_true q7)
          have q9b : decide ((x2.length : Int) > 1000) = false := decide_eq_false (by have := HY.out; omega)
          clear H q7
          go_wp2_with (first | (refine zO (some 50) Tryd.func52 #[.slice A0 l0.length c0, .slice Aw p.f0.length cw, .int .i64 (rd ms j)] ?_; (with_reducible refine (impl_ties_rotated.calls k2 _ _ l0 _ _ p.f0 (rd ms j) nx _ ?side1 ?side2 ?side3 ?side4 ?side5 H4.out).mono ?_); (case side1 => exact kO HR0.out HJ.out.1.2.2.1); (case side2 => exact HC0.out); (case side3 => exact HCW.out); (case side4 => exact HLW.out); (case side5 => exact TabW.below HT.out HJ.out.1.2.2.1); rintro e w7 ⟨v50, rfl, ho0, hb⟩; refine ⟨_, rfl, ?_⟩; have HJ1 := zA (HJ.out.below hb); have HZ1 := zA (Kd.S_below HZ.out hb); obtain ⟨An, cn, en⟩ := kM ho0; subst en; have HN1 := zA ho0; have HG1 := zA hb.size; clear ho0 hb) | (refine zO (some 52) Tryd.func50 #[.slice An nx.length cn] ?_; (with_reducible refine (impl_wordKey.calls k2 _ _ nx key _ ?side1 ?side2 H5.out).mono ?_); (case side1 => exact (kB HN1.out).2.2); (case side2 => exact (kB HN1.out).2.1); rintro e w8 ⟨rfl, hb⟩; refine ⟨_, rfl, ?_⟩; have HJ2 := zA (HJ1.out.below hb); have HZ2 := zA (Kd.S_below HZ1.out hb); have HN2 := zA (kL HN1.out hb); have HG2 := zA (Nat.le_trans HG1.out hb.size); clear hb) | (at_lookup; refine wpList_mw_bool rfl (.tmp 53) (.tmp 54) 71 rfl law Tryd.underlying71 Tryd.underlying4 zero_boolD HJ2.out.1.1 rfl key.data.toList (key_ok (wordKey_le H5.out)) _ rfl (Go.WideMaps.keyOf_string_mk Tryd.underlying9 (wordKey_le H5.out)) ?_; rw [HD.out]))
          go_roundg k2
          case measure => have := HK2.out; omega
          case rel => exact ⟨x2, s2, wrap64 (j + 1), rfl, HN, ⟨by have := HK2.out; omega⟩, HJ2, HY⟩
         rw [if_neg q7] at H
         by_cases q8 : p.f1.length < 1000000000
         ·rw [if_pos q8] at H
          obtain ⟨yb, hyb⟩ : ∃ y_ : List Int, y_ = p.f1 ++ [rd ms j] := ⟨_, rfl⟩
          rw [← hyb] at H
          obtain ⟨yx, hyx⟩ : ∃ y_ : List S60, y_ = x2 ++ [⟨nx, yb⟩] := ⟨_, rfl⟩
          rw [← hyx] at H
          have HYL : yx.length = x2.length + 1 := by rw [hyx]; simp
          have NL := zA HYL
          have NY := zA hyb
          have NX := zA hyx
          clear hyb hyx HYL
          have HD := zA (show decide (key.data.toList ∈ s2) = false from decide_eq_false q7)
          have H7 := zA q7
          have H8 := zA q8
          clear q7 q8
          by_cases q9 : (yx.length : Int) > 1000
          ·rw [if_pos q9] at H
           have q9b : decide ((yx.length : Int) > 1000) = true := decide_eq_true q9
           have q9c : decide (1000 < yx.length) = true := decide_eq_true (by omega)
           simp only [Option.some.injEq, Prod.mk.injEq] at H
           obtain ⟨rfl, rfl, rfl⟩ := H
           have HR' := Option.some.inj (show some yx = some r from HRR.out)
           subst HR'
           go_wp2_with (first | (refine zO (some 50) Tryd.func52 #[.slice A0 l0.length c0, .slice Aw p.f0.length cw, .int .i64 (rd ms j)] ?_; (with_reducible refine (impl_ties_rotated.calls k2 _ _ l0 _ _ p.f0 (rd ms j) nx _ ?side1 ?side2 ?side3 ?side4 ?side5 H4.out).mono ?_); (case side1 => exact kO HR0.out HJ.out.1.2.2.1); (case side2 => exact HC0.out); (case side3 => exact HCW.out); (case side4 => exact HLW.out); (case side5 => exact TabW.below HT.out HJ.out.1.2.2.1); rintro e w7 ⟨v50, rfl, ho0, hb⟩; refine ⟨_, rfl, ?_⟩; have HJ1 := zA (HJ.out.below hb); have HZ1 := zA (Kd.S_below HZ.out hb); obtain ⟨An, cn, en⟩ := kM ho0; subst en; have HN1 := zA ho0; have HG1 := zA hb.size; clear ho0 hb) | (refine zO (some 52) Tryd.func50 #[.slice An nx.length cn] ?_; (with_reducible refine (impl_wordKey.calls k2 _ _ nx key _ ?side1 ?side2 H5.out).mono ?_); (case side1 => exact (kB HN1.out).2.2); (case side2 => exact (kB HN1.out).2.1); rintro e w8 ⟨rfl, hb⟩; refine ⟨_, rfl, ?_⟩; have HJ2 := zA (HJ1.out.below hb); have HZ2 := zA (Kd.S_below HZ1.out hb); have HN2 := zA (kL HN1.out hb); have HG2 := zA (Nat.le_trans HG1.out hb.size); clear hb) | (at_lookup; refine wpList_mw_bool rfl (.tmp 53) (.tmp 54) 71 rfl law Tryd.underlying71 Tryd.underlying4 zero_boolD HJ2.out.1.1 rfl key.data.toList (key_ok (wordKey_le H5.out)) _ rfl (Go.WideMaps.keyOf_string_mk Tryd.underlying9 (wordKey_le H5.out)) ?_; rw [HD.out]) | (at_mapUpdate; refine wpList_mw_put rfl (.tmp 57) (.tmp 58) (.const (.bool true)) 71 rfl law litstr_inj (fun _ => trivial) Tryd.underlying71 HJ2.out.1.1 (by have := HY.out; unfold maxLen; omega) rfl key.data.toList (key_ok (wordKey_le H5.out)) _ _ rfl rfl (Go.WideMaps.keyOf_string_mk Tryd.underlying9 (wordKey_le H5.out)) true (plainElem_bool Tryd.underlying4 true) ?_; intro w9 hm2 hg2; have HJ3 := zA (HJ2.out.put (MapS_put H7.out hm2) hg2); have HZ3 := zA (Kd.S_grown HZ2.out hg2 (fun k_ hk_ e_ => hk_.1 (Option.some.inj e_))); have HN3 := zA (R_over_mapS HN2.out HJ2.out.1.1 hg2); have HG3 := zA (Nat.le_trans HG2.out hg2.size); clear hm2 hg2; obtain ⟨ad6, Ax, cx, Az, cz, eA, hcw, hcz, hlw, hCw, hlz, hCz⟩ := at_T60 (Kd.S_reads' HJ3.out.1.2.1).2.2 i HIX.out.1 HY.out.2.2; obtain rfl := Option.some.inj eA; rw [← HP.out] at hcw hcz hlz hCz; have HLZ := zA hlz; have HCZ := zA hCz; clear hlw hCw hlz hCz hcw eA) | (refine zO (some 66) Tryd.func29 #[.slice Az p.f1.length cz] ?_; (with_reducible refine (slices_Clone_int64_int64.calls _ _ p.f1 p.f1 _ ?side1 ?side2 (by unfold slices_Clone_int64_int64.f; rw [if_pos (by have := H8.out; omega)])).mono ?_); (case side1 => exact HCZ.out); (case side2 => exact HLZ.out); rintro e w10 ⟨v66, rfl, ho0, hb⟩; refine ⟨_, rfl, ?_⟩; have HV4 := zA ho0; have HB4 := zA hb; clear ho0 hb) | ((with_reducible refine gate_builtin (b := .append) (xs := #[.tmp 66, .tmp 68]) rfl ?_); at_builtin; refine Kd.R_append (Kd.int .i64) (w0 := w9) w9.heap.size rfl (.tmp 66) (.tmp 68) 22 2 (.int .i64 0) 8 rfl Tryd.underlying22 info2 rfl (by decide) (by omega) v66 p.f1 (rd ms j) [.int .i64 (rd ms j)] (fun _ => True) (fun _ => False) rfl rfl ?aP (fun _ hk => hk.elim) ?aF ?aO ?aB ?aS ?aL ?_; (case aP => exact rfl); (case aF => exact (fun _ _ => trivial)); (case aO => exact HV4.out); (case aB => exact HB4.out); (case aS => exact HB4.out.size); (case aL => have := H8.out; omega); intro v69 w11 ho hb hg hat; rw [← NY.out] at ho; have HJ5 := zA (HJ3.out.below hb); have HZ5 := zA (Kd.S_below HZ3.out hb); have HN5 := zA (kL HN3.out hb); obtain ⟨Ab, cb, eb⟩ := kM ho; subst eb; have HW5 := zA ho; clear ho hb hg hat) | ((with_reducible refine gate_builtin (b := .append) (xs := #[.tmp 59, .tmp 71]) rfl ?_); at_builtin; refine Kd.S_append k60 (w0 := w) w.heap.size rfl (.tmp 59) (.tmp 71) 44 60 (.agg #[.slice none 0 0, .slice none 0 0]) 48 rfl Tryd.underlying44 info60c rfl (by decide) (by omega) (.slice (some ad6) x2.length c5') x2 ⟨nx, yb⟩ [.slice An nx.length cn, .slice Ab yb.length cb] (fun k_ => k_ ≠ w2.heap.size) (fun k_ => wr.heap.size ≤ k_) rfl rfl ?aP ?aH ?aF ?aO ?aB ?aS ?aL ?_; (case aP => exact k60_mkM _ _ _ _ (kI (kA (Kd.R_bound HN5.out) (fun _ hk_ => hk_.2.1)) HWS.out.1) (kI (kA (Kd.R_bound HW5.out) (fun _ hk_ => Nat.le_trans HG3.out hk_.2.1)) (Nat.le_trans HWS.out.1 HG3.out))); (case aH => exact fun k_ hk_ => ⟨fun e_ => by have := HWS.out.2.1; omega, fun e_ => by have := HWS.out.2.2 k_ e_.symm; omega⟩); (case aF => exact fun k_ hk_ e_ => by have := MapW.lt HJ5.out.1.1; omega); (case aO => exact Kd.S_mono HZ5.out (fun k_ hk_ => ⟨hk_.1, Nat.not_le.2 hk_.2⟩)); (case aB => exact HJ5.out.1.2.2.1); (case aS => exact HJ5.out.1.2.2.1.size); (case aL => have := HY.out; omega); intro v72 w12 ho hb hg hat; have HJ6 := HJ5.out.app ho hg; rw [← NX.out] at HJ6; replace HJ6 := zA HJ6; obtain ⟨A9, c9, e9⟩ := Kd.S_slice HJ6.out.1.2.1; subst e9; clear ho hb hg hat))
           go_ret
           exact ⟨_, rfl, Kd.S_N (Kd.S_mono (Kd.S_bound HJ6.out.1.2.1) (fun _ h_ => h_.2.1)), HJ6.out.1.2.2.1⟩
          rw [if_neg q9] at H
          have q9b : decide ((yx.length : Int) > 1000) = false := decide_eq_false q9
          have q9c : decide (1000 < yx.length) = false := decide_eq_false (by omega)
          have HN := zA H
          have HL := zA (show yx.length ≤ 1000 by omega)
          clear H
          go_wp2_with (first | (refine zO (some 50) Tryd.func52 #[.slice A0 l0.length c0, .slice Aw p.f0.length cw, .int .i64 (rd ms j)] ?_; (with_reducible refine (impl_ties_rotated.calls k2 _ _ l0 _ _ p.f0 (rd ms j) nx _ ?side1 ?side2 ?side3 ?side4 ?side5 H4.out).mono ?_); (case side1 => exact kO HR0.out HJ.out.1.2.2.1); (case side2 => exact HC0.out); (case side3 => exact HCW.out); (case side4 => exact HLW.out); (case side5 => exact TabW.below HT.out HJ.out.1.2.2.1); rintro e w7 ⟨v50, rfl, ho0, hb⟩; refine ⟨_, rfl, ?_⟩; have HJ1 := zA (HJ.out.below hb); have HZ1 := zA (Kd.S_below HZ.out hb); obtain ⟨An, cn, en⟩ := kM ho0; subst en; have HN1 := zA ho0; have HG1 := zA hb.size; clear ho0 hb) | (refine zO (some 52) Tryd.func50 #[.slice An nx.length cn] ?_; (with_reducible refine (impl_wordKey.calls k2 _ _ nx key _ ?side1 ?side2 H5.out).mono ?_); (case side1 => exact (kB HN1.out).2.2); (case side2 => exact (kB HN1.out).2.1); rintro e w8 ⟨rfl, hb⟩; refine ⟨_, rfl, ?_⟩; have HJ2 := zA (HJ1.out.below hb); have HZ2 := zA (Kd.S_below HZ1.out hb); have HN2 := zA (kL HN1.out hb); have HG2 := zA (Nat.le_trans HG1.out hb.size); clear hb) | (at_lookup; refine wpList_mw_bool rfl (.tmp 53) (.tmp 54) 71 rfl law Tryd.underlying71 Tryd.underlying4 zero_boolD HJ2.out.1.1 rfl key.data.toList (key_ok (wordKey_le H5.out)) _ rfl (Go.WideMaps.keyOf_string_mk Tryd.underlying9 (wordKey_le H5.out)) ?_; rw [HD.out]) | (at_mapUpdate; refine wpList_mw_put rfl (.tmp 57) (.tmp 58) (.const (.bool true)) 71 rfl law litstr_inj (fun _ => trivial) Tryd.underlying71 HJ2.out.1.1 (by have := HY.out; unfold maxLen; omega) rfl key.data.toList (key_ok (wordKey_le H5.out)) _ _ rfl rfl (Go.WideMaps.keyOf_string_mk Tryd.underlying9 (wordKey_le H5.out)) true (plainElem_bool Tryd.underlying4 true) ?_; intro w9 hm2 hg2; have HJ3 := zA (HJ2.out.put (MapS_put H7.out hm2) hg2); have HZ3 := zA (Kd.S_grown HZ2.out hg2 (fun k_ hk_ e_ => hk_.1 (Option.some.inj e_))); have HN3 := zA (R_over_mapS HN2.out HJ2.out.1.1 hg2); have HG3 := zA (Nat.le_trans HG2.out hg2.size); clear hm2 hg2; obtain ⟨ad6, Ax, cx, Az, cz, eA, hcw, hcz, hlw, hCw, hlz, hCz⟩ := at_T60 (Kd.S_reads' HJ3.out.1.2.1).2.2 i HIX.out.1 HY.out.2.2; obtain rfl := Option.some.inj eA; rw [← HP.out] at hcw hcz hlz hCz; have HLZ := zA hlz; have HCZ := zA hCz; clear hlw hCw hlz hCz hcw eA) | (refine zO (some 66) Tryd.func29 #[.slice Az p.f1.length cz] ?_; (with_reducible refine (slices_Clone_int64_int64.calls _ _ p.f1 p.f1 _ ?side1 ?side2 (by unfold slices_Clone_int64_int64.f; rw [if_pos (by have := H8.out; omega)])).mono ?_); (case side1 => exact HCZ.out); (case side2 => exact HLZ.out); rintro e w10 ⟨v66, rfl, ho0, hb⟩; refine ⟨_, rfl, ?_⟩; have HV4 := zA ho0; have HB4 := zA hb; clear ho0 hb) | ((with_reducible refine gate_builtin (b := .append) (xs := #[.tmp 66, .tmp 68]) rfl ?_); at_builtin; refine Kd.R_append (Kd.int .i64) (w0 := w9) w9.heap.size rfl (.tmp 66) (.tmp 68) 22 2 (.int .i64 0) 8 rfl Tryd.underlying22 info2 rfl (by decide) (by omega) v66 p.f1 (rd ms j) [.int .i64 (rd ms j)] (fun _ => True) (fun _ => False) rfl rfl ?aP (fun _ hk => hk.elim) ?aF ?aO ?aB ?aS ?aL ?_; (case aP => exact rfl); (case aF => exact (fun _ _ => trivial)); (case aO => exact HV4.out); (case aB => exact HB4.out); (case aS => exact HB4.out.size); (case aL => have := H8.out; omega); intro v69 w11 ho hb hg hat; rw [← NY.out] at ho; have HJ5 := zA (HJ3.out.below hb); have HZ5 := zA (Kd.S_below HZ3.out hb); have HN5 := zA (kL HN3.out hb); obtain ⟨Ab, cb, eb⟩ := kM ho; subst eb; have HW5 := zA ho; clear ho hb hg hat) | ((with_reducible refine gate_builtin (b := .append) (xs := #[.tmp 59, .tmp 71]) rfl ?_); at_builtin; refine Kd.S_append k60 (w0 := w) w.heap.size rfl (.tmp 59) (.tmp 71) 44 60 (.agg #[.slice none 0 0, .slice none 0 0]) 48 rfl Tryd.underlying44 info60c rfl (by decide) (by omega) (.slice (some ad6) x2.length c5') x2 ⟨nx, yb⟩ [.slice An nx.length cn, .slice Ab yb.length cb] (fun k_ => k_ ≠ w2.heap.size) (fun k_ => wr.heap.size ≤ k_) rfl rfl ?aP ?aH ?aF ?aO ?aB ?aS ?aL ?_; (case aP => exact k60_mkM _ _ _ _ (kI (kA (Kd.R_bound HN5.out) (fun _ hk_ => hk_.2.1)) HWS.out.1) (kI (kA (Kd.R_bound HW5.out) (fun _ hk_ => Nat.le_trans HG3.out hk_.2.1)) (Nat.le_trans HWS.out.1 HG3.out))); (case aH => exact fun k_ hk_ => ⟨fun e_ => by have := HWS.out.2.1; omega, fun e_ => by have := HWS.out.2.2 k_ e_.symm; omega⟩); (case aF => exact fun k_ hk_ e_ => by have := MapW.lt HJ5.out.1.1; omega); (case aO => exact Kd.S_mono HZ5.out (fun k_ hk_ => ⟨hk_.1, Nat.not_le.2 hk_.2⟩)); (case aB => exact HJ5.out.1.2.2.1); (case aS => exact HJ5.out.1.2.2.1.size); (case aL => have := HY.out; omega); intro v72 w12 ho hb hg hat; have HJ6 := HJ5.out.app ho hg; rw [← NX.out] at HJ6; replace HJ6 := zA HJ6; obtain ⟨A9, c9, e9⟩ := Kd.S_slice HJ6.out.1.2.1; subst e9; clear ho hb hg hat))
          go_roundg k2
          case measure => have := HK2.out; omega
          case rel => exact ⟨yx, key.data.toList :: s2, wrap64 (j + 1), rfl, HN, ⟨by have := HK2.out; omega⟩, HJ6, ⟨by have := HY.out.1; have := NL.out; simp only [List.length_cons]; omega, HL.out, by have := HY.out.2.2; have := NL.out; omega⟩⟩
         rw [if_neg q8] at H
         cases H
        rw [if_neg q4] at H
        cases H
       rw [if_neg q3] at H
       have q3b : decide (j < (ms.length : Int)) = false := decide_eq_false q3
       simp only [Option.some.injEq, Prod.mk.injEq] at H
       obtain ⟨rfl, rfl, rfl⟩ := H
       have HR' := zA (show impl_ties_conjugates.l0 k1 l0 x2 (wrap64 (i + 1)) s2 = some r from HRR.out)
       go_wp2
       go_roundg k1
       case measure => have := HK.out; omega
       case rel => exact ⟨x2, s2, wrap64 (i + 1), rfl, HR', ⟨by have := HK.out; omega⟩, ⟨HJ.out.1⟩, ⟨HY.out.1, HY.out.2.1⟩⟩
    rw [if_neg q2] at H
    cases H
   rw [if_neg q1] at H
   have q1b : decide (i < (x.length : Int)) = false := decide_eq_false q1
   obtain rfl := Option.some.inj H
   go_wp2
   go_ret
   exact ⟨_, rfl, Kd.S_N (Kd.S_mono (Kd.S_bound HI.out.2.1) (fun _ h_ => h_.2.1)), HI.out.2.2.1⟩

/-! ### impl_checkConjugates: function 22 -/
def impl_checkConjugates.f (k : Nat) (a0_0 : Int) (l0_1 : List Int) (l1 : List Int) (l2 : List (List Int)) : Option ((List (S60)) × Int) := (some (([l1] : List (List Int)) : List (List Int))).bind fun y306 => (if y306.length + l2.length < 5864062014805 then ((impl_checkWords.f k a0_0 l0_1 (y306 ++ l2)).bind fun t312 => (if t312 = 0 then ((impl_Alphabet_ties.f a0_0 l0_1).bind fun t313 => ((impl_ties_conjugates.f k t313 l1).bind fun t316 => (if (t316.length : Int) > 1000 then (some (([] : List (S60)), 3)) else (some (t316, 0))))) else (some (([] : List (S60)), t312)))) else (none))

set_option maxHeartbeats 8000000 in
set_option maxRecDepth 100000 in
theorem impl_checkConjugates.calls (k : Nat) (a0_0 : Int) (P0_1_ : Nat → Prop) (A0_1 : Option Addr) (c0_1 : Nat) (l0_1 : List Int) (P1_ : Nat → Prop) (A1 : Option Addr) (c1 : Nat) (l1 : List Int) (P2_ : Nat → Prop) (A2 : Option Addr) (c2 : Nat) (l2 : List (List Int)) (r1 : List (S60)) (r2 : Int) (w : World) (hs0_1 : Kd.V (Kd.int .i64) 2 w w.heap.size (fun k_ => P0_1_ k_) (.slice A0_1 l0_1.length c0_1) l0_1) (hs1 : Kd.V (Kd.int .i64) 2 w w.heap.size (fun k_ => P1_ k_) (.slice A1 l1.length c1) l1) (hs2 : Kd.V (Kd.slice 2 (Kd.int .i64)) 22 w w.heap.size (fun k_ => P2_ k_) (.slice A2 l2.length c2) l2) (hT : TabW w) (h : impl_checkConjugates.f k a0_0 l0_1 l1 l2 = some (r1, r2)) :
  Calls Tryd.prog 22 #[.agg #[.int .i64 a0_0, .slice A0_1 l0_1.length c0_1], .slice A1 l1.length c1, .slice A2 l2.length c2] w fun e w' => ∃ v0_ : Value, e = .returned (.tuple #[v0_, .int .i64 r2]) ∧ Kd.N k60 60 w' w.heap.size (fun k_ => ((P0_1_ k_ ∨ P1_ k_ ∨ P2_ k_) ∨ w.heap.size ≤ k_)) v0_ r1 ∧ Below w.heap.size w w' := by
 have hu28 := Tryd.underlying28
 have HT := zA hT
 clear hT
 have HO0_1 := zA (show Kd.V (Kd.int .i64) 2 w w.heap.size (fun k_ => ((P0_1_ k_ ∨ P1_ k_ ∨ P2_ k_) ∨ w.heap.size ≤ k_)) (.slice A0_1 l0_1.length c0_1) l0_1 from kN hs0_1 (fun k_ hk => .inl (.inl hk)))
 have HO1 := zA (show Kd.V (Kd.int .i64) 2 w w.heap.size (fun k_ => ((P0_1_ k_ ∨ P1_ k_ ∨ P2_ k_) ∨ w.heap.size ≤ k_)) (.slice A1 l1.length c1) l1 from kN hs1 (fun k_ hk => .inl (.inr (.inl hk))))
 have HO2 := zA (show Kd.V (Kd.slice 2 (Kd.int .i64)) 22 w w.heap.size (fun k_ => ((P0_1_ k_ ∨ P1_ k_ ∨ P2_ k_) ∨ w.heap.size ≤ k_)) (.slice A2 l2.length c2) l2 from kN hs2 (fun k_ hk => .inl (.inr (.inr hk))))
 have HB := zA (kW w.heap.size w)
 have H := h
 unfold impl_checkConjugates.f at H
 clear h
 obtain ⟨y306, hy306⟩ : ∃ y_ : List (List Int), y_ = (([l1] : List (List Int))) := ⟨_, rfl⟩
 replace H : (if y306.length + l2.length < 5864062014805 then ((impl_checkWords.f k a0_0 l0_1 (y306 ++ l2)).bind fun t312 => (if t312 = 0 then ((impl_Alphabet_ties.f a0_0 l0_1).bind fun t313 => ((impl_ties_conjugates.f k t313 l1).bind fun t316 => (if (t316.length : Int) > 1000 then (some (([] : List (S60)), 3)) else (some (t316, 0))))) else (some (([] : List (S60)), t312)))) else (none)) = some (r1, r2) := zy hy306 H
 have Ny306 := zA hy306
 clear hy306
 by_cases c4 : y306.length + l2.length < 5864062014805
 ·rw [if_pos c4] at H
  have LMc4 := zA c4
  clear c4
  obtain ⟨y309, hy309⟩ : ∃ y_ : List (List Int), y_ = (y306 ++ l2) := ⟨_, rfl⟩
  replace H : ((impl_checkWords.f k a0_0 l0_1 y309).bind fun t312 => (if t312 = 0 then ((impl_Alphabet_ties.f a0_0 l0_1).bind fun t313 => ((impl_ties_conjugates.f k t313 l1).bind fun t316 => (if (t316.length : Int) > 1000 then (some (([] : List (S60)), 3)) else (some (t316, 0))))) else (some (([] : List (S60)), t312)))) = some (r1, r2) := zy hy309 H
  have Ny309 := zA hy309
  clear hy309
  obtain ⟨t312, A5, H⟩ := zb H
  try dsimp only at H
  by_cases c6 : t312 = 0
  ·rw [if_pos c6] at H
   obtain ⟨c6b0, c6b1⟩ := zT1 c6
   clear c6
   obtain ⟨t313, A7, H⟩ := zb H
   try dsimp only at H
   obtain ⟨t316, A8, H⟩ := zb H
   try dsimp only at H
   by_cases c9 : (t316.length : Int) > 1000
   ·rw [if_pos c9] at H
    have c9b0 : decide (1000 < (t316.length : Int)) = true := decide_eq_true c9
    have c9b1 : decide (1000 < t316.length) = true := decide_eq_true (by omega)
    clear c9
    simp only [Option.some.injEq, Prod.mk.injEq] at H
    obtain ⟨rfl, rfl⟩ := H
    go_enter Tryd.func22, Tryd.ntmps22
    try go_wp2_with (first | (refine zBE 3 #[.int .i64 a0_0, .slice A0_1 l0_1.length c0_1] 28 ?_; intro gb305 hg w10 hbox hb; replace HO0_1 := zA (kG (jD (zPV HO0_1.out) gb305 (Nat.le_of_eq hg.symm)) hb); replace HO1 := zA (kG (jD (zPV HO1.out) gb305 (Nat.le_of_eq hg.symm)) hb); replace HO2 := zA (kG (jD (zPV HO2.out) gb305 (Nat.le_of_eq hg.symm)) hb); have BK305 := zA (hbox); have GW305 := zA (zBH hg HB.out); have GE305 := zA (zBH hg HB.out); replace HB := zA (kQ (zQ HB.out) hb); clear hb hbox hg))
    replace HO0_1 := zA (Kd.V_drew HO0_1.out)
    replace HO1 := zA (Kd.V_drew HO1.out)
    replace HO2 := zA (Kd.V_drew HO2.out)
    replace BK305 := zA (zK BK305.out)
    replace HB := zA (zD HB.out)
    refine start_ (n := 7) (S := fun w' => w'.cell? ⟨gb305, 0, none⟩ = some (.int .i64 a0_0) ∧ w'.cell? ⟨gb305, 1, none⟩ = some (.slice A0_1 l0_1.length c0_1)) (ds := []) #[false, false, false, false, false, false, false] (by kernel_rfl) rfl rfl ⟨(kV BK305.out 0).trans rfl, (kV BK305.out 1).trans rfl⟩ (fun hHeld => ?_)
    generalize w10.drew = w11 at HO0_1 HO1 HO2 BK305 HB hHeld ⊢
    refine pure_ (i := 1) (N := some 11) (v := ?_) (a' := ?_) #[false, true, false, false, false, false, false] rfl rfl (by kernel_rfl) (fun _ _ _ h => h) (Or.inl ⟨by rfl, ?_⟩) ?_ ?_
    rotate_left
    ·intro w'
     go_simp
     with_reducible rfl
    rotate_left
    ·simp only [Act.put, zL, zM, zN, i64_w, i32_w]
     rfl
    refine pure_ (i := 3) (N := some 13) (v := ?_) (a' := ?_) #[false, true, false, true, false, false, false] rfl rfl (by kernel_rfl) (fun _ _ _ h => h) (Or.inl ⟨by rfl, ?_⟩) ?_ ?_
    rotate_left
    ·intro w'
     go_simp
     with_reducible rfl
    rotate_left
    ·simp only [Act.put, zL, zM, zN, i64_w, i32_w]
     rfl
    refine take_ (i := 0) (N := some 10) (v := ?_) (a' := ?_) #[true, true, false, true, false, false, false] rfl rfl (by kernel_rfl) (fun _ _ _ h => h) (Or.inl ⟨by rfl, ?_⟩) hHeld ?_ ?_
    rotate_left
    ·rintro w' ⟨s0, s1⟩
     go_simp
     with_reducible rfl
    rotate_left
    ·simp only [Act.put, zL, zM, zN, i64_w, i32_w]
     rfl
    refine one_ (i := 2) (N := some 12) #[true, true, true, true, false, false, false] rfl rfl (by kernel_rfl) (by decide) (fun K hK => ?_)
    refine Kd.N_lit_step (Kd.slice 2 (Kd.int .i64)) _ 22 ?hg (N' := 12) ?hd (xs := ([l1] : List (List Int))) (inner := [.slice A1 l1.length c1]) (ok := (fun k_ => ((P0_1_ k_ ∨ P1_ k_ ∨ P2_ k_) ∨ w.heap.size ≤ k_) ∧ k_ ≠ gb305)) (okp := (fun k_ => ((P0_1_ k_ ∨ P1_ k_ ∨ P2_ k_) ∨ w.heap.size ≤ k_) ∧ k_ ≠ gb305)) ?hr ?hp (fun _ hk => hk) ((show ∀ k_ : Nat, (_ : Nat) ≤ k_ → (fun k_ => ((P0_1_ k_ ∨ P1_ k_ ∨ P2_ k_) ∨ w.heap.size ≤ k_) ∧ k_ ≠ gb305) k_ from fun k_ hk => ⟨(.inr (Nat.le_trans (kP (zT HB.out GE305.out)) hk)), jE (g := gb305) (o := .cells #[.int .i64 a0_0, .slice A0_1 l0_1.length c0_1] 28 (0, 0)) (zR BK305.out) k_ hk⟩) _ (Nat.le_refl _)) (kW _ _) (Nat.le_refl _) (by simp) ?_; (case hd => rfl); (case hg => rfl); (case hr => first | (go_simp; done) | (go_simp; rfl)); (case hp => exact (Reps.one (show Kd.FK (Kd.slice 2 (Kd.int .i64)) _ _ l1 [.slice A1 l1.length c1] from (zFK (kN (ok' := (fun k_ => ((P0_1_ k_ ∨ P1_ k_ ∨ P2_ k_) ∨ w.heap.size ≤ k_) ∧ k_ ≠ gb305)) (HO1.out) (fun k_ hk => ⟨hk.1, hk.2⟩)))) (Reps.none _ _)))
    intro v307 w12 ho13 hb hg_ hnew_
    clear hg_ hnew_
    (first | rw [← Ny306.out] at ho13 | (simp only [Int.reduceToNat] at ho13; rw [← Ny306.out] at ho13))
    replace HO0_1 := zA (kK (zPV HO0_1.out) (Kd.N_base ho13) hb)
    replace HO1 := zA (kK (zPV HO1.out) (Kd.N_base ho13) hb)
    replace HO2 := zA (kK (zPV HO2.out) (Kd.N_base ho13) hb)
    have HO308 := zA (jN ho13 (kP (zT HB.out GE305.out)))
    replace BK305 := zA (zB1 BK305.out hb)
    replace HB := zA (kQ (zT HB.out GE305.out) hb)
    clear hb ho13
    refine hK.out _ _ ⟨(kV BK305.out 0).trans rfl, (kV BK305.out 1).trans rfl⟩ (fun hHeld => ?_)
    clear hK K
    refine norm_ (a' := ?_) ?_ ?_
    rotate_left
    ·show Act.put _ (some 12) _ = _
     simp only [Act.put, zL, zM, zN, i64_w, i32_w]
     rfl
    refine one_ (i := 4) (N := some 14) #[true, true, true, true, true, false, false] rfl rfl (by kernel_rfl) (by decide) (fun K hK => ?_)
    refine Kd.N_append_rows_step (Kd.slice 2 (Kd.int .i64)) (w0 := w) w.heap.size (by rfl) (.tmp 12) (.tmp 13) 39 22 (.slice none 0 0) 24 rfl Tryd.underlying39 info22 rfl (by decide) (by omega) v307 y306 l2 _ _ _ (fun k_ => ((P0_1_ k_ ∨ P1_ k_ ∨ P2_ k_) ∨ w.heap.size ≤ k_) ∧ k_ ≠ gb305) (fun k_ => ((fun k_ => ((P0_1_ k_ ∨ P1_ k_ ∨ P2_ k_) ∨ w.heap.size ≤ k_) ∧ k_ ≠ gb305)) k_ ∧ some k_ ≠ (v307 : Value).ownBlock) rfl rfl ?aO ?aR (fun _ hk => hk) ?aF ?aB ?aS ?aL ?_
    (case aR => exact (by skip; exact jB (kN (ok' := (fun k_ => ((fun k_ => ((P0_1_ k_ ∨ P1_ k_ ∨ P2_ k_) ∨ w.heap.size ≤ k_) ∧ k_ ≠ gb305)) k_ ∧ some k_ ≠ (v307 : Value).ownBlock)) (HO2.out) (fun k_ hk => ⟨⟨hk.1.1, hk.1.2⟩, hk.2⟩))))
    (case aB => exact (zT HB.out GE305.out))
    (case aF => exact (fun k_ hk => ⟨(.inr (Nat.le_trans (kP (zT HB.out GE305.out)) hk)), jE (g := gb305) (o := .cells #[.int .i64 a0_0, .slice A0_1 l0_1.length c0_1] 28 (0, 0)) (zR BK305.out) k_ hk⟩))
    (case aO => exact (zPN HO308.out))
    (case aS => exact (kP (zT HB.out GE305.out)))
    (case aL => have := LMc4.out; omega)
    intro v310 w14 ho hb hg hat
    rw [← Ny309.out] at ho
    replace HO0_1 := zA (Kd.V_afterv (ok := (fun k_ => ((P0_1_ k_ ∨ P1_ k_ ∨ P2_ k_) ∨ w.heap.size ≤ k_) ∧ k_ ≠ gb305)) (zPV HO0_1.out) hg hat)
    replace HO1 := zA (Kd.V_afterv (ok := (fun k_ => ((P0_1_ k_ ∨ P1_ k_ ∨ P2_ k_) ∨ w.heap.size ≤ k_) ∧ k_ ≠ gb305)) (zPV HO1.out) hg hat)
    replace HO2 := zA (Kd.V_afterv (ok := (fun k_ => ((P0_1_ k_ ∨ P1_ k_ ∨ P2_ k_) ∨ w.heap.size ≤ k_) ∧ k_ ≠ gb305)) (zPV HO2.out) hg hat)
    replace BK305 := zA (blk_grown (g := gb305) (o := .cells #[.int .i64 a0_0, .slice A0_1 l0_1.length c0_1] 28 (0, 0)) (zR BK305.out) hg (Kd.N_ne HO308.out BK305.out (by decide)))
    replace HB := zA (hb)
    have HO311 := zA (ho)
    clear HO308 ho hb hg hat
    obtain ⟨Ao15, co15, eo15⟩ := Kd.N_slice HO311.out
    (first | subst eo15 | (injection eo15 with f1_ f2_ f3_; have f4_ := f1_.symm; have f5_ := f3_.symm; clear f1_ f2_ f3_; subst f4_; subst f5_))
    refine hK.out _ _ ⟨(kV BK305.out 0).trans rfl, (kV BK305.out 1).trans rfl⟩ (fun hHeld => ?_)
    clear hK K
    refine norm_ (a' := ?_) ?_ ?_
    rotate_left
    ·show Act.put _ (some 14) _ = _
     simp only [Act.put, zL, zM, zN, i64_w, i32_w]
     rfl
    refine one_ (i := 5) (N := some 15) #[true, true, true, true, true, true, false] rfl rfl (by kernel_rfl) (by decide) (fun K hK => ?_)
    refine goes_ Tryd.func34 (by kernel_rfl) rfl #[.agg #[.int .i64 a0_0, .slice A0_1 l0_1.length c0_1], .slice Ao15 y309.length co15] (by rfl) rfl rfl zg ?_
    with_reducible refine (impl_checkWords.calls k a0_0 _ _ l0_1 _ _ y309 t312 _ ?side1 ?side2 ?side3 ?side4 ?side5 A5.out).mono ?_
    (case side1 => exact zS (kJ HO0_1.out).2.2)
    (case side2 => exact (kJ HO0_1.out).2.1)
    (case side3 => exact zS (Kd.N_reads' HO311.out).2.2)
    (case side4 => exact (Kd.N_reads' HO311.out).2.1)
    (case side5 => exact TabW.below HT.out (zT HB.out GE305.out))
    rintro e w16 ⟨rfl, hb⟩
    refine ⟨_, rfl, ?_⟩
    replace HO0_1 := zA (kG (zPV HO0_1.out) hb)
    replace HO1 := zA (kG (zPV HO1.out) hb)
    replace HO2 := zA (kG (zPV HO2.out) hb)
    replace HO311 := zA (kZ (zPN HO311.out) hb)
    replace BK305 := zA (zB1 BK305.out hb)
    replace HB := zA (kQ (zT HB.out GE305.out) hb)
    (try clear hb)
    (try clear hb2)
    (try clear hk)
    (try clear hi)
    (try clear hgw)
    refine hK.out _ _ ⟨(kV BK305.out 0).trans rfl, (kV BK305.out 1).trans rfl⟩ (fun hHeld => ?_)
    clear hK K
    refine norm_ (a' := ?_) ?_ ?_
    rotate_left
    ·show Act.put _ (some 15) _ = _
     simp only [Act.put, zL, zM, zN, i64_w, i32_w]
     rfl
    refine pure_ (i := 6) (N := some 8) (v := ?_) (a' := ?_) #[true, true, true, true, true, true, true] rfl rfl (by kernel_rfl) (fun _ _ _ h => h) (Or.inl ⟨by rfl, ?_⟩) ?_ ?_
    rotate_left
    ·intro w'
     go_simp
     with_reducible rfl
    rotate_left
    ·simp only [Act.put, zL, zM, zN, i64_w, i32_w]
     rfl
    refine done_ (by kernel_rfl) ?_
    obtain ⟨hcz17_0, hcz17_1, hfz17_0, hfz17_1⟩ := zB3 BK305.out
    try go_wp2_with (first | (refine zO (some 20) Tryd.func24 #[.agg #[.int .i64 a0_0, .slice A0_1 l0_1.length c0_1]] ?_; (with_reducible refine (impl_Alphabet_ties.calls a0_0 (fun k_ => ((((P0_1_ k_ ∨ P1_ k_ ∨ P2_ k_) ∨ w.heap.size ≤ k_) ∧ k_ ≠ gb305) ∧ some k_ ≠ (.slice Ao15 y309.length co15 : Value).ownBlock)) _ _ l0_1 t313 _ ?side1 A7.out).mono ?_); (case side1 => exact HO0_1.out); rintro e w18 ⟨v314, rfl, ho0, hb⟩; refine ⟨_, rfl, ?_⟩; replace HO0_1 := zA (kG (zPV HO0_1.out) hb); replace HO1 := zA (kG (zPV HO1.out) hb); replace HO2 := zA (kG (zPV HO2.out) hb); have HO315 := zA (jM (kN (ok' := fun k_ => ((P0_1_ k_ ∨ P1_ k_ ∨ P2_ k_) ∨ w.heap.size ≤ k_) ∧ some k_ ≠ (.slice Ao15 y309.length co15 : Value).ownBlock ∧ k_ ≠ gb305) ho0 (fun k_ hk_ => ⟨Or.elim hk_ (fun hs_ => hs_.1.1) (fun hn_ => (.inr (Nat.le_trans (kP (zT HB.out GE305.out)) hn_))), Or.elim hk_ (fun hs_ => hs_.2) (fun hn_ => (jF (jA (zPN HO311.out)) k_ hn_)), Or.elim hk_ (fun hs_ => hs_.1.2) (fun hn_ => (jE (g := gb305) (o := .cells #[.int .i64 a0_0, .slice A0_1 l0_1.length c0_1] 28 (0, 0)) (zR BK305.out) k_ hn_))⟩)) (kP (zT HB.out GE305.out))); replace HO311 := zA (kZ (zPN HO311.out) hb); replace BK305 := zA (zB1 BK305.out hb); replace HB := zA (kQ (zT HB.out GE305.out) hb); (try clear hb); (try clear ho0); obtain ⟨Ao19, co19, eo19⟩ := Kd.V_slice HO315.out; subst eo19) | (refine zO (some 22) Tryd.func35 #[.slice Ao19 t313.length co19, .slice A1 l1.length c1] ?_; (with_reducible refine (impl_ties_conjugates.calls k _ _ t313 _ _ l1 t316 _ ?side1 ?side2 ?side3 ?side4 ?side5 A8.out).mono ?_); (case side1 => exact zS (kJ HO315.out).2.2); (case side2 => exact (kJ HO315.out).2.1); (case side3 => exact zS (kJ HO1.out).2.2); (case side4 => exact (kJ HO1.out).2.1); (case side5 => exact TabW.below HT.out (zT HB.out GE305.out)); rintro e w20 ⟨v317, rfl, ho0, hb⟩; refine ⟨_, rfl, ?_⟩; replace HO0_1 := zA (kK (zPV HO0_1.out) (Kd.N_base ho0) hb); replace HO1 := zA (kK (zPV HO1.out) (Kd.N_base ho0) hb); replace HO2 := zA (kK (zPV HO2.out) (Kd.N_base ho0) hb); replace HO315 := zA (kK (zPV HO315.out) (Kd.N_base ho0) hb); have HO318 := zA (jN (Kd.N_mono (ok' := fun k_ => ((P0_1_ k_ ∨ P1_ k_ ∨ P2_ k_) ∨ w.heap.size ≤ k_) ∧ some k_ ≠ (.slice Ao15 y309.length co15 : Value).ownBlock ∧ k_ ≠ gb305) ho0 (fun k_ hk_ => ⟨(.inr (Nat.le_trans (kP (zT HB.out GE305.out)) hk_)), (jF (jA (zPN HO311.out)) k_ hk_), (jE (g := gb305) (o := .cells #[.int .i64 a0_0, .slice A0_1 l0_1.length c0_1] 28 (0, 0)) (zR BK305.out) k_ hk_)⟩)) (kP (zT HB.out GE305.out))); replace HO311 := zA (Kd.N_elder' (zPN HO311.out) (Kd.N_base ho0) hb); replace BK305 := zA (zB1 BK305.out hb); replace HB := zA (kQ (zT HB.out GE305.out) hb); (try clear hb); (try clear ho0); obtain ⟨Ao21, co21, eo21⟩ := Kd.N_slice HO318.out; subst eo21))
    go_ret2
    exact ⟨_, zr, by first | exact Kd.S_nil _ _ _ _ _ | exact Kd.N_nil _ _ _ _ _ | exact Kd.V_nil _ _ _ _ _ | exact Kd.Q_nil _ _ _ _ _ | exact jO _ _ _ _ _, zT HB.out GE305.out⟩
   rw [if_neg c9] at H
   have c9b0 : decide (1000 < (t316.length : Int)) = false := decide_eq_false c9
   have c9b1 : decide (1000 < t316.length) = false := decide_eq_false (by omega)
   clear c9
   simp only [Option.some.injEq, Prod.mk.injEq] at H
   obtain ⟨rfl, rfl⟩ := H
   go_enter Tryd.func22, Tryd.ntmps22
   try go_wp2_with (first | (refine zBE 3 #[.int .i64 a0_0, .slice A0_1 l0_1.length c0_1] 28 ?_; intro gb305 hg w22 hbox hb; replace HO0_1 := zA (kG (jD (zPV HO0_1.out) gb305 (Nat.le_of_eq hg.symm)) hb); replace HO1 := zA (kG (jD (zPV HO1.out) gb305 (Nat.le_of_eq hg.symm)) hb); replace HO2 := zA (kG (jD (zPV HO2.out) gb305 (Nat.le_of_eq hg.symm)) hb); have BK305 := zA (hbox); have GW305 := zA (zBH hg HB.out); have GE305 := zA (zBH hg HB.out); replace HB := zA (kQ (zQ HB.out) hb); clear hb hbox hg))
   replace HO0_1 := zA (Kd.V_drew HO0_1.out)
   replace HO1 := zA (Kd.V_drew HO1.out)
   replace HO2 := zA (Kd.V_drew HO2.out)
   replace BK305 := zA (zK BK305.out)
   replace HB := zA (zD HB.out)
   refine start_ (n := 7) (S := fun w' => w'.cell? ⟨gb305, 0, none⟩ = some (.int .i64 a0_0) ∧ w'.cell? ⟨gb305, 1, none⟩ = some (.slice A0_1 l0_1.length c0_1)) (ds := []) #[false, false, false, false, false, false, false] (by kernel_rfl) rfl rfl ⟨(kV BK305.out 0).trans rfl, (kV BK305.out 1).trans rfl⟩ (fun hHeld => ?_)
   generalize w22.drew = w23 at HO0_1 HO1 HO2 BK305 HB hHeld ⊢
   refine pure_ (i := 1) (N := some 11) (v := ?_) (a' := ?_) #[false, true, false, false, false, false, false] rfl rfl (by kernel_rfl) (fun _ _ _ h => h) (Or.inl ⟨by rfl, ?_⟩) ?_ ?_
   rotate_left
   ·intro w'
    go_simp
    with_reducible rfl
   rotate_left
   ·simp only [Act.put, zL, zM, zN, i64_w, i32_w]
    rfl
   refine pure_ (i := 3) (N := some 13) (v := ?_) (a' := ?_) #[false, true, false, true, false, false, false] rfl rfl (by kernel_rfl) (fun _ _ _ h => h) (Or.inl ⟨by rfl, ?_⟩) ?_ ?_
   rotate_left
   ·intro w'
    go_simp
    with_reducible rfl
   rotate_left
   ·simp only [Act.put, zL, zM, zN, i64_w, i32_w]
    rfl
   refine take_ (i := 0) (N := some 10) (v := ?_) (a' := ?_) #[true, true, false, true, false, false, false] rfl rfl (by kernel_rfl) (fun _ _ _ h => h) (Or.inl ⟨by rfl, ?_⟩) hHeld ?_ ?_
   rotate_left
   ·rintro w' ⟨s0, s1⟩
    go_simp
    with_reducible rfl
   rotate_left
   ·simp only [Act.put, zL, zM, zN, i64_w, i32_w]
    rfl
   refine one_ (i := 2) (N := some 12) #[true, true, true, true, false, false, false] rfl rfl (by kernel_rfl) (by decide) (fun K hK => ?_)
   refine Kd.N_lit_step (Kd.slice 2 (Kd.int .i64)) _ 22 ?hg (N' := 12) ?hd (xs := ([l1] : List (List Int))) (inner := [.slice A1 l1.length c1]) (ok := (fun k_ => ((P0_1_ k_ ∨ P1_ k_ ∨ P2_ k_) ∨ w.heap.size ≤ k_) ∧ k_ ≠ gb305)) (okp := (fun k_ => ((P0_1_ k_ ∨ P1_ k_ ∨ P2_ k_) ∨ w.heap.size ≤ k_) ∧ k_ ≠ gb305)) ?hr ?hp (fun _ hk => hk) ((show ∀ k_ : Nat, (_ : Nat) ≤ k_ → (fun k_ => ((P0_1_ k_ ∨ P1_ k_ ∨ P2_ k_) ∨ w.heap.size ≤ k_) ∧ k_ ≠ gb305) k_ from fun k_ hk => ⟨(.inr (Nat.le_trans (kP (zT HB.out GE305.out)) hk)), jE (g := gb305) (o := .cells #[.int .i64 a0_0, .slice A0_1 l0_1.length c0_1] 28 (0, 0)) (zR BK305.out) k_ hk⟩) _ (Nat.le_refl _)) (kW _ _) (Nat.le_refl _) (by simp) ?_; (case hd => rfl); (case hg => rfl); (case hr => first | (go_simp; done) | (go_simp; rfl)); (case hp => exact (Reps.one (show Kd.FK (Kd.slice 2 (Kd.int .i64)) _ _ l1 [.slice A1 l1.length c1] from (zFK (kN (ok' := (fun k_ => ((P0_1_ k_ ∨ P1_ k_ ∨ P2_ k_) ∨ w.heap.size ≤ k_) ∧ k_ ≠ gb305)) (HO1.out) (fun k_ hk => ⟨hk.1, hk.2⟩)))) (Reps.none _ _)))
   intro v307 w24 ho25 hb hg_ hnew_
   clear hg_ hnew_
   (first | rw [← Ny306.out] at ho25 | (simp only [Int.reduceToNat] at ho25; rw [← Ny306.out] at ho25))
   replace HO0_1 := zA (kK (zPV HO0_1.out) (Kd.N_base ho25) hb)
   replace HO1 := zA (kK (zPV HO1.out) (Kd.N_base ho25) hb)
   replace HO2 := zA (kK (zPV HO2.out) (Kd.N_base ho25) hb)
   have HO308 := zA (jN ho25 (kP (zT HB.out GE305.out)))
   replace BK305 := zA (zB1 BK305.out hb)
   replace HB := zA (kQ (zT HB.out GE305.out) hb)
   clear hb ho25
   refine hK.out _ _ ⟨(kV BK305.out 0).trans rfl, (kV BK305.out 1).trans rfl⟩ (fun hHeld => ?_)
   clear hK K
   refine norm_ (a' := ?_) ?_ ?_
   rotate_left
   ·show Act.put _ (some 12) _ = _
    simp only [Act.put, zL, zM, zN, i64_w, i32_w]
    rfl
   refine one_ (i := 4) (N := some 14) #[true, true, true, true, true, false, false] rfl rfl (by kernel_rfl) (by decide) (fun K hK => ?_)
   refine Kd.N_append_rows_step (Kd.slice 2 (Kd.int .i64)) (w0 := w) w.heap.size (by rfl) (.tmp 12) (.tmp 13) 39 22 (.slice none 0 0) 24 rfl Tryd.underlying39 info22 rfl (by decide) (by omega) v307 y306 l2 _ _ _ (fun k_ => ((P0_1_ k_ ∨ P1_ k_ ∨ P2_ k_) ∨ w.heap.size ≤ k_) ∧ k_ ≠ gb305) (fun k_ => ((fun k_ => ((P0_1_ k_ ∨ P1_ k_ ∨ P2_ k_) ∨ w.heap.size ≤ k_) ∧ k_ ≠ gb305)) k_ ∧ some k_ ≠ (v307 : Value).ownBlock) rfl rfl ?aO ?aR (fun _ hk => hk) ?aF ?aB ?aS ?aL ?_
   (case aR => exact (by skip; exact jB (kN (ok' := (fun k_ => ((fun k_ => ((P0_1_ k_ ∨ P1_ k_ ∨ P2_ k_) ∨ w.heap.size ≤ k_) ∧ k_ ≠ gb305)) k_ ∧ some k_ ≠ (v307 : Value).ownBlock)) (HO2.out) (fun k_ hk => ⟨⟨hk.1.1, hk.1.2⟩, hk.2⟩))))
   (case aB => exact (zT HB.out GE305.out))
   (case aF => exact (fun k_ hk => ⟨(.inr (Nat.le_trans (kP (zT HB.out GE305.out)) hk)), jE (g := gb305) (o := .cells #[.int .i64 a0_0, .slice A0_1 l0_1.length c0_1] 28 (0, 0)) (zR BK305.out) k_ hk⟩))
   (case aO => exact (zPN HO308.out))
   (case aS => exact (kP (zT HB.out GE305.out)))
   (case aL => have := LMc4.out; omega)
   intro v310 w26 ho hb hg hat
   rw [← Ny309.out] at ho
   replace HO0_1 := zA (Kd.V_afterv (ok := (fun k_ => ((P0_1_ k_ ∨ P1_ k_ ∨ P2_ k_) ∨ w.heap.size ≤ k_) ∧ k_ ≠ gb305)) (zPV HO0_1.out) hg hat)
   replace HO1 := zA (Kd.V_afterv (ok := (fun k_ => ((P0_1_ k_ ∨ P1_ k_ ∨ P2_ k_) ∨ w.heap.size ≤ k_) ∧ k_ ≠ gb305)) (zPV HO1.out) hg hat)
   replace HO2 := zA (Kd.V_afterv (ok := (fun k_ => ((P0_1_ k_ ∨ P1_ k_ ∨ P2_ k_) ∨ w.heap.size ≤ k_) ∧ k_ ≠ gb305)) (zPV HO2.out) hg hat)
   replace BK305 := zA (blk_grown (g := gb305) (o := .cells #[.int .i64 a0_0, .slice A0_1 l0_1.length c0_1] 28 (0, 0)) (zR BK305.out) hg (Kd.N_ne HO308.out BK305.out (by decide)))
   replace HB := zA (hb)
   have HO311 := zA (ho)
   clear HO308 ho hb hg hat
   obtain ⟨Ao27, co27, eo27⟩ := Kd.N_slice HO311.out
   (first | subst eo27 | (injection eo27 with f1_ f2_ f3_; have f4_ := f1_.symm; have f5_ := f3_.symm; clear f1_ f2_ f3_; subst f4_; subst f5_))
   refine hK.out _ _ ⟨(kV BK305.out 0).trans rfl, (kV BK305.out 1).trans rfl⟩ (fun hHeld => ?_)
   clear hK K
   refine norm_ (a' := ?_) ?_ ?_
   rotate_left
   ·show Act.put _ (some 14) _ = _
    simp only [Act.put, zL, zM, zN, i64_w, i32_w]
    rfl
   refine one_ (i := 5) (N := some 15) #[true, true, true, true, true, true, false] rfl rfl (by kernel_rfl) (by decide) (fun K hK => ?_)
   refine goes_ Tryd.func34 (by kernel_rfl) rfl #[.agg #[.int .i64 a0_0, .slice A0_1 l0_1.length c0_1], .slice Ao27 y309.length co27] (by rfl) rfl rfl zg ?_
   with_reducible refine (impl_checkWords.calls k a0_0 _ _ l0_1 _ _ y309 t312 _ ?side1 ?side2 ?side3 ?side4 ?side5 A5.out).mono ?_
   (case side1 => exact zS (kJ HO0_1.out).2.2)
   (case side2 => exact (kJ HO0_1.out).2.1)
   (case side3 => exact zS (Kd.N_reads' HO311.out).2.2)
   (case side4 => exact (Kd.N_reads' HO311.out).2.1)
   (case side5 => exact TabW.below HT.out (zT HB.out GE305.out))
   rintro e w28 ⟨rfl, hb⟩
   refine ⟨_, rfl, ?_⟩
   replace HO0_1 := zA (kG (zPV HO0_1.out) hb)
   replace HO1 := zA (kG (zPV HO1.out) hb)
   replace HO2 := zA (kG (zPV HO2.out) hb)
   replace HO311 := zA (kZ (zPN HO311.out) hb)
   replace BK305 := zA (zB1 BK305.out hb)
   replace HB := zA (kQ (zT HB.out GE305.out) hb)
   (try clear hb)
   (try clear hb2)
   (try clear hk)
   (try clear hi)
   (try clear hgw)
   refine hK.out _ _ ⟨(kV BK305.out 0).trans rfl, (kV BK305.out 1).trans rfl⟩ (fun hHeld => ?_)
   clear hK K
   refine norm_ (a' := ?_) ?_ ?_
   rotate_left
   ·show Act.put _ (some 15) _ = _
    simp only [Act.put, zL, zM, zN, i64_w, i32_w]
    rfl
   refine pure_ (i := 6) (N := some 8) (v := ?_) (a' := ?_) #[true, true, true, true, true, true, true] rfl rfl (by kernel_rfl) (fun _ _ _ h => h) (Or.inl ⟨by rfl, ?_⟩) ?_ ?_
   rotate_left
   ·intro w'
    go_simp
    with_reducible rfl
   rotate_left
   ·simp only [Act.put, zL, zM, zN, i64_w, i32_w]
    rfl
   refine done_ (by kernel_rfl) ?_
   obtain ⟨hcz29_0, hcz29_1, hfz29_0, hfz29_1⟩ := zB3 BK305.out
   try go_wp2_with (first | (refine zO (some 20) Tryd.func24 #[.agg #[.int .i64 a0_0, .slice A0_1 l0_1.length c0_1]] ?_; (with_reducible refine (impl_Alphabet_ties.calls a0_0 (fun k_ => ((((P0_1_ k_ ∨ P1_ k_ ∨ P2_ k_) ∨ w.heap.size ≤ k_) ∧ k_ ≠ gb305) ∧ some k_ ≠ (.slice Ao27 y309.length co27 : Value).ownBlock)) _ _ l0_1 t313 _ ?side1 A7.out).mono ?_); (case side1 => exact HO0_1.out); rintro e w30 ⟨v314, rfl, ho0, hb⟩; refine ⟨_, rfl, ?_⟩; replace HO0_1 := zA (kG (zPV HO0_1.out) hb); replace HO1 := zA (kG (zPV HO1.out) hb); replace HO2 := zA (kG (zPV HO2.out) hb); have HO315 := zA (jM (kN (ok' := fun k_ => ((P0_1_ k_ ∨ P1_ k_ ∨ P2_ k_) ∨ w.heap.size ≤ k_) ∧ some k_ ≠ (.slice Ao27 y309.length co27 : Value).ownBlock ∧ k_ ≠ gb305) ho0 (fun k_ hk_ => ⟨Or.elim hk_ (fun hs_ => hs_.1.1) (fun hn_ => (.inr (Nat.le_trans (kP (zT HB.out GE305.out)) hn_))), Or.elim hk_ (fun hs_ => hs_.2) (fun hn_ => (jF (jA (zPN HO311.out)) k_ hn_)), Or.elim hk_ (fun hs_ => hs_.1.2) (fun hn_ => (jE (g := gb305) (o := .cells #[.int .i64 a0_0, .slice A0_1 l0_1.length c0_1] 28 (0, 0)) (zR BK305.out) k_ hn_))⟩)) (kP (zT HB.out GE305.out))); replace HO311 := zA (kZ (zPN HO311.out) hb); replace BK305 := zA (zB1 BK305.out hb); replace HB := zA (kQ (zT HB.out GE305.out) hb); (try clear hb); (try clear ho0); obtain ⟨Ao31, co31, eo31⟩ := Kd.V_slice HO315.out; subst eo31) | (refine zO (some 22) Tryd.func35 #[.slice Ao31 t313.length co31, .slice A1 l1.length c1] ?_; (with_reducible refine (impl_ties_conjugates.calls k _ _ t313 _ _ l1 t316 _ ?side1 ?side2 ?side3 ?side4 ?side5 A8.out).mono ?_); (case side1 => exact zS (kJ HO315.out).2.2); (case side2 => exact (kJ HO315.out).2.1); (case side3 => exact zS (kJ HO1.out).2.2); (case side4 => exact (kJ HO1.out).2.1); (case side5 => exact TabW.below HT.out (zT HB.out GE305.out)); rintro e w32 ⟨v317, rfl, ho0, hb⟩; refine ⟨_, rfl, ?_⟩; replace HO0_1 := zA (kK (zPV HO0_1.out) (Kd.N_base ho0) hb); replace HO1 := zA (kK (zPV HO1.out) (Kd.N_base ho0) hb); replace HO2 := zA (kK (zPV HO2.out) (Kd.N_base ho0) hb); replace HO315 := zA (kK (zPV HO315.out) (Kd.N_base ho0) hb); have HO318 := zA (jN (Kd.N_mono (ok' := fun k_ => ((P0_1_ k_ ∨ P1_ k_ ∨ P2_ k_) ∨ w.heap.size ≤ k_) ∧ some k_ ≠ (.slice Ao27 y309.length co27 : Value).ownBlock ∧ k_ ≠ gb305) ho0 (fun k_ hk_ => ⟨(.inr (Nat.le_trans (kP (zT HB.out GE305.out)) hk_)), (jF (jA (zPN HO311.out)) k_ hk_), (jE (g := gb305) (o := .cells #[.int .i64 a0_0, .slice A0_1 l0_1.length c0_1] 28 (0, 0)) (zR BK305.out) k_ hk_)⟩)) (kP (zT HB.out GE305.out))); replace HO311 := zA (Kd.N_elder' (zPN HO311.out) (Kd.N_base ho0) hb); replace BK305 := zA (zB1 BK305.out hb); replace HB := zA (kQ (zT HB.out GE305.out) hb); (try clear hb); (try clear ho0); obtain ⟨Ao33, co33, eo33⟩ := Kd.N_slice HO318.out; subst eo33))
   go_ret2
   exact ⟨_, zr, by (with_reducible repeat (first | apply Kd.N_alloc | apply Kd.N_drewN | apply Kd.N_drew)); exact Kd.N_mono HO318.out (fun _ hk => hk.1), zT HB.out GE305.out⟩
  rw [if_neg c6] at H
  obtain ⟨c6b0, c6b1⟩ := zT2 c6
  simp only [Option.some.injEq, Prod.mk.injEq] at H
  obtain ⟨rfl, rfl⟩ := H
  go_enter Tryd.func22, Tryd.ntmps22
  try go_wp2_with (first | (refine zBE 3 #[.int .i64 a0_0, .slice A0_1 l0_1.length c0_1] 28 ?_; intro gb305 hg w34 hbox hb; replace HO0_1 := zA (kG (jD (zPV HO0_1.out) gb305 (Nat.le_of_eq hg.symm)) hb); replace HO1 := zA (kG (jD (zPV HO1.out) gb305 (Nat.le_of_eq hg.symm)) hb); replace HO2 := zA (kG (jD (zPV HO2.out) gb305 (Nat.le_of_eq hg.symm)) hb); have BK305 := zA (hbox); have GW305 := zA (zBH hg HB.out); have GE305 := zA (zBH hg HB.out); replace HB := zA (kQ (zQ HB.out) hb); clear hb hbox hg))
  replace HO0_1 := zA (Kd.V_drew HO0_1.out)
  replace HO1 := zA (Kd.V_drew HO1.out)
  replace HO2 := zA (Kd.V_drew HO2.out)
  replace BK305 := zA (zK BK305.out)
  replace HB := zA (zD HB.out)
  refine start_ (n := 7) (S := fun w' => w'.cell? ⟨gb305, 0, none⟩ = some (.int .i64 a0_0) ∧ w'.cell? ⟨gb305, 1, none⟩ = some (.slice A0_1 l0_1.length c0_1)) (ds := []) #[false, false, false, false, false, false, false] (by kernel_rfl) rfl rfl ⟨(kV BK305.out 0).trans rfl, (kV BK305.out 1).trans rfl⟩ (fun hHeld => ?_)
  generalize w34.drew = w35 at HO0_1 HO1 HO2 BK305 HB hHeld ⊢
  refine pure_ (i := 1) (N := some 11) (v := ?_) (a' := ?_) #[false, true, false, false, false, false, false] rfl rfl (by kernel_rfl) (fun _ _ _ h => h) (Or.inl ⟨by rfl, ?_⟩) ?_ ?_
  rotate_left
  ·intro w'
   go_simp
   with_reducible rfl
  rotate_left
  ·simp only [Act.put, zL, zM, zN, i64_w, i32_w]
   rfl
  refine pure_ (i := 3) (N := some 13) (v := ?_) (a' := ?_) #[false, true, false, true, false, false, false] rfl rfl (by kernel_rfl) (fun _ _ _ h => h) (Or.inl ⟨by rfl, ?_⟩) ?_ ?_
  rotate_left
  ·intro w'
   go_simp
   with_reducible rfl
  rotate_left
  ·simp only [Act.put, zL, zM, zN, i64_w, i32_w]
   rfl
  refine take_ (i := 0) (N := some 10) (v := ?_) (a' := ?_) #[true, true, false, true, false, false, false] rfl rfl (by kernel_rfl) (fun _ _ _ h => h) (Or.inl ⟨by rfl, ?_⟩) hHeld ?_ ?_
  rotate_left
  ·rintro w' ⟨s0, s1⟩
   go_simp
   with_reducible rfl
  rotate_left
  ·simp only [Act.put, zL, zM, zN, i64_w, i32_w]
   rfl
  refine one_ (i := 2) (N := some 12) #[true, true, true, true, false, false, false] rfl rfl (by kernel_rfl) (by decide) (fun K hK => ?_)
  refine Kd.N_lit_step (Kd.slice 2 (Kd.int .i64)) _ 22 ?hg (N' := 12) ?hd (xs := ([l1] : List (List Int))) (inner := [.slice A1 l1.length c1]) (ok := (fun k_ => ((P0_1_ k_ ∨ P1_ k_ ∨ P2_ k_) ∨ w.heap.size ≤ k_) ∧ k_ ≠ gb305)) (okp := (fun k_ => ((P0_1_ k_ ∨ P1_ k_ ∨ P2_ k_) ∨ w.heap.size ≤ k_) ∧ k_ ≠ gb305)) ?hr ?hp (fun _ hk => hk) ((show ∀ k_ : Nat, (_ : Nat) ≤ k_ → (fun k_ => ((P0_1_ k_ ∨ P1_ k_ ∨ P2_ k_) ∨ w.heap.size ≤ k_) ∧ k_ ≠ gb305) k_ from fun k_ hk => ⟨(.inr (Nat.le_trans (kP (zT HB.out GE305.out)) hk)), jE (g := gb305) (o := .cells #[.int .i64 a0_0, .slice A0_1 l0_1.length c0_1] 28 (0, 0)) (zR BK305.out) k_ hk⟩) _ (Nat.le_refl _)) (kW _ _) (Nat.le_refl _) (by simp) ?_; (case hd => rfl); (case hg => rfl); (case hr => first | (go_simp; done) | (go_simp; rfl)); (case hp => exact (Reps.one (show Kd.FK (Kd.slice 2 (Kd.int .i64)) _ _ l1 [.slice A1 l1.length c1] from (zFK (kN (ok' := (fun k_ => ((P0_1_ k_ ∨ P1_ k_ ∨ P2_ k_) ∨ w.heap.size ≤ k_) ∧ k_ ≠ gb305)) (HO1.out) (fun k_ hk => ⟨hk.1, hk.2⟩)))) (Reps.none _ _)))
  intro v307 w36 ho37 hb hg_ hnew_
  clear hg_ hnew_
  (first | rw [← Ny306.out] at ho37 | (simp only [Int.reduceToNat] at ho37; rw [← Ny306.out] at ho37))
  replace HO0_1 := zA (kK (zPV HO0_1.out) (Kd.N_base ho37) hb)
  replace HO1 := zA (kK (zPV HO1.out) (Kd.N_base ho37) hb)
  replace HO2 := zA (kK (zPV HO2.out) (Kd.N_base ho37) hb)
  have HO308 := zA (jN ho37 (kP (zT HB.out GE305.out)))
  replace BK305 := zA (zB1 BK305.out hb)
  replace HB := zA (kQ (zT HB.out GE305.out) hb)
  clear hb ho37
  refine hK.out _ _ ⟨(kV BK305.out 0).trans rfl, (kV BK305.out 1).trans rfl⟩ (fun hHeld => ?_)
  clear hK K
  refine norm_ (a' := ?_) ?_ ?_
  rotate_left
  ·show Act.put _ (some 12) _ = _
   simp only [Act.put, zL, zM, zN, i64_w, i32_w]
   rfl
  refine one_ (i := 4) (N := some 14) #[true, true, true, true, true, false, false] rfl rfl (by kernel_rfl) (by decide) (fun K hK => ?_)
  refine Kd.N_append_rows_step (Kd.slice 2 (Kd.int .i64)) (w0 := w) w.heap.size (by rfl) (.tmp 12) (.tmp 13) 39 22 (.slice none 0 0) 24 rfl Tryd.underlying39 info22 rfl (by decide) (by omega) v307 y306 l2 _ _ _ (fun k_ => ((P0_1_ k_ ∨ P1_ k_ ∨ P2_ k_) ∨ w.heap.size ≤ k_) ∧ k_ ≠ gb305) (fun k_ => ((fun k_ => ((P0_1_ k_ ∨ P1_ k_ ∨ P2_ k_) ∨ w.heap.size ≤ k_) ∧ k_ ≠ gb305)) k_ ∧ some k_ ≠ (v307 : Value).ownBlock) rfl rfl ?aO ?aR (fun _ hk => hk) ?aF ?aB ?aS ?aL ?_
  (case aR => exact (by skip; exact jB (kN (ok' := (fun k_ => ((fun k_ => ((P0_1_ k_ ∨ P1_ k_ ∨ P2_ k_) ∨ w.heap.size ≤ k_) ∧ k_ ≠ gb305)) k_ ∧ some k_ ≠ (v307 : Value).ownBlock)) (HO2.out) (fun k_ hk => ⟨⟨hk.1.1, hk.1.2⟩, hk.2⟩))))
  (case aB => exact (zT HB.out GE305.out))
  (case aF => exact (fun k_ hk => ⟨(.inr (Nat.le_trans (kP (zT HB.out GE305.out)) hk)), jE (g := gb305) (o := .cells #[.int .i64 a0_0, .slice A0_1 l0_1.length c0_1] 28 (0, 0)) (zR BK305.out) k_ hk⟩))
  (case aO => exact (zPN HO308.out))
  (case aS => exact (kP (zT HB.out GE305.out)))
  (case aL => have := LMc4.out; omega)
  intro v310 w38 ho hb hg hat
  rw [← Ny309.out] at ho
  replace HO0_1 := zA (Kd.V_afterv (ok := (fun k_ => ((P0_1_ k_ ∨ P1_ k_ ∨ P2_ k_) ∨ w.heap.size ≤ k_) ∧ k_ ≠ gb305)) (zPV HO0_1.out) hg hat)
  replace HO1 := zA (Kd.V_afterv (ok := (fun k_ => ((P0_1_ k_ ∨ P1_ k_ ∨ P2_ k_) ∨ w.heap.size ≤ k_) ∧ k_ ≠ gb305)) (zPV HO1.out) hg hat)
  replace HO2 := zA (Kd.V_afterv (ok := (fun k_ => ((P0_1_ k_ ∨ P1_ k_ ∨ P2_ k_) ∨ w.heap.size ≤ k_) ∧ k_ ≠ gb305)) (zPV HO2.out) hg hat)
  replace BK305 := zA (blk_grown (g := gb305) (o := .cells #[.int .i64 a0_0, .slice A0_1 l0_1.length c0_1] 28 (0, 0)) (zR BK305.out) hg (Kd.N_ne HO308.out BK305.out (by decide)))
  replace HB := zA (hb)
  have HO311 := zA (ho)
  clear HO308 ho hb hg hat
  obtain ⟨Ao39, co39, eo39⟩ := Kd.N_slice HO311.out
  (first | subst eo39 | (injection eo39 with f1_ f2_ f3_; have f4_ := f1_.symm; have f5_ := f3_.symm; clear f1_ f2_ f3_; subst f4_; subst f5_))
  refine hK.out _ _ ⟨(kV BK305.out 0).trans rfl, (kV BK305.out 1).trans rfl⟩ (fun hHeld => ?_)
  clear hK K
  refine norm_ (a' := ?_) ?_ ?_
  rotate_left
  ·show Act.put _ (some 14) _ = _
   simp only [Act.put, zL, zM, zN, i64_w, i32_w]
   rfl
  refine one_ (i := 5) (N := some 15) #[true, true, true, true, true, true, false] rfl rfl (by kernel_rfl) (by decide) (fun K hK => ?_)
  refine goes_ Tryd.func34 (by kernel_rfl) rfl #[.agg #[.int .i64 a0_0, .slice A0_1 l0_1.length c0_1], .slice Ao39 y309.length co39] (by rfl) rfl rfl zg ?_
  with_reducible refine (impl_checkWords.calls k a0_0 _ _ l0_1 _ _ y309 t312 _ ?side1 ?side2 ?side3 ?side4 ?side5 A5.out).mono ?_
  (case side1 => exact zS (kJ HO0_1.out).2.2)
  (case side2 => exact (kJ HO0_1.out).2.1)
  (case side3 => exact zS (Kd.N_reads' HO311.out).2.2)
  (case side4 => exact (Kd.N_reads' HO311.out).2.1)
  (case side5 => exact TabW.below HT.out (zT HB.out GE305.out))
  rintro e w40 ⟨rfl, hb⟩
  refine ⟨_, rfl, ?_⟩
  replace HO0_1 := zA (kG (zPV HO0_1.out) hb)
  replace HO1 := zA (kG (zPV HO1.out) hb)
  replace HO2 := zA (kG (zPV HO2.out) hb)
  replace HO311 := zA (kZ (zPN HO311.out) hb)
  replace BK305 := zA (zB1 BK305.out hb)
  replace HB := zA (kQ (zT HB.out GE305.out) hb)
  (try clear hb)
  (try clear hb2)
  (try clear hk)
  (try clear hi)
  (try clear hgw)
  refine hK.out _ _ ⟨(kV BK305.out 0).trans rfl, (kV BK305.out 1).trans rfl⟩ (fun hHeld => ?_)
  clear hK K
  refine norm_ (a' := ?_) ?_ ?_
  rotate_left
  ·show Act.put _ (some 15) _ = _
   simp only [Act.put, zL, zM, zN, i64_w, i32_w]
   rfl
  refine pure_ (i := 6) (N := some 8) (v := ?_) (a' := ?_) #[true, true, true, true, true, true, true] rfl rfl (by kernel_rfl) (fun _ _ _ h => h) (Or.inl ⟨by rfl, ?_⟩) ?_ ?_
  rotate_left
  ·intro w'
   go_simp
   with_reducible rfl
  rotate_left
  ·simp only [Act.put, zL, zM, zN, i64_w, i32_w]
   rfl
  refine done_ (by kernel_rfl) ?_
  try go_wp2
  go_ret2
  exact ⟨_, zr, by first | exact Kd.S_nil _ _ _ _ _ | exact Kd.N_nil _ _ _ _ _ | exact Kd.V_nil _ _ _ _ _ | exact Kd.Q_nil _ _ _ _ _ | exact jO _ _ _ _ _, zT HB.out GE305.out⟩
 rw [if_neg c4] at H
 exact absurd H (by simp)

-- NOT PRINTED: function 36 (impl_turned)

/-! ### slices_Equal_int64_int64: function 38 -/
def slices_Equal_int64_int64.l0 : Nat → List Int → List Int → Int → Int → Option (Bool)
 | 0, _, _, _, _ => none
 | k + 1, x0, x1, x12, x13 => if x13 < x12 then (if 0 ≤ x13 then (if x13 < (x0.length : Int) then (if x13 < (x1.length : Int) then (if (rd x0 x13) = (rd x1 x13) then (slices_Equal_int64_int64.l0 k x0 x1 x12 (wrap64 (x13 + 1))) else (some false)) else (none)) else (none)) else (none)) else (some true)
def slices_Equal_int64_int64.f (k : Nat) (l0 : List Int) (l1 : List Int) : Option (Bool) := if (l0.length : Int) = (l1.length : Int) then (slices_Equal_int64_int64.l0 k l0 l1 (l0.length : Int) 0) else (some false)

set_option maxHeartbeats 8000000 in
set_option maxRecDepth 100000 in
theorem slices_Equal_int64_int64.calls (k : Nat) (A0 : Option Addr) (c0 : Nat) (l0 : List Int) (A1 : Option Addr) (c1 : Nat) (l1 : List Int) (r : Bool) (w : World) (hr0 : Kd.C (Kd.int .i64) w A0 l0.length l0) (hc0 : l0.length ≤ c0) (hr1 : Kd.C (Kd.int .i64) w A1 l1.length l1) (hc1 : l1.length ≤ c1) (h : slices_Equal_int64_int64.f k l0 l1 = some r) :
  Calls Tryd.prog 38 #[.slice A0 l0.length c0, .slice A1 l1.length c1] w fun e w' => e = .returned (.bool r) ∧ Drawn0 w w' := by
 have HR0 := zA hr0
 have HC0 := zA hc0
 clear hr0 hc0
 have HR1 := zA hr1
 have HC1 := zA hc1
 clear hr1 hc1
 have H := h
 unfold slices_Equal_int64_int64.f at H
 clear h
 by_cases c3 : (l0.length : Int) = (l1.length : Int)
 ·rw [if_pos c3] at H
  obtain ⟨c3b0, c3b1⟩ := zT1 c3
  have c3b2 : (l0.length == l1.length) = true := by first | simpa using c3 | (simp at c3 ⊢; omega)
  clear c3
  have H' := zA H
  clear H
  go_enter Tryd.func38, Tryd.ntmps38
  go_wp2
  repeat (go_quiet (fail); try go_wp2)
  go_loopg [13] k (fun kq v13 w' => ∃ (x13_1 : Int), v13 = .int .i64 x13_1 ∧ Aside0 (slices_Equal_int64_int64.l0 kq l0 l1 (l0.length : Int) x13_1 = some r) ∧ Aside0 (kq ≤ k) ∧ Drawn0 w w')
  case atStart => exact ⟨(0), zs, H', ⟨Nat.le_refl _⟩, by repeat (first | exact Drawn0.refl _ | apply Drawn0.step)⟩
  case round =>
   clear H'
   try clear c1
   try clear c3
   obtain ⟨x13_1, rfl, HA, HK1, ⟨m1, rfl⟩⟩ := hrel
   cases gk with
   | zero => exact absurd HA.out (by simp [slices_Equal_int64_int64.l0])
   | succ k1 =>
    have H := HA.out
    clear HA
    simp only [slices_Equal_int64_int64.l0] at H
    by_cases c4 : x13_1 < (l0.length : Int)
    ·rw [if_pos c4] at H
     have c4b0 : decide (x13_1 < (l0.length : Int)) = true := decide_eq_true c4
     clear c4
     by_cases c5 : 0 ≤ x13_1
     ·rw [if_pos c5] at H
      have c5b0 : decide (0 ≤ x13_1) = true := decide_eq_true c5
      clear c5
      by_cases c6 : x13_1 < (l0.length : Int)
      ·rw [if_pos c6] at H
       have c6b0 : decide (x13_1 < (l0.length : Int)) = true := decide_eq_true c6
       clear c6
       by_cases c7 : x13_1 < (l1.length : Int)
       ·rw [if_pos c7] at H
        have c7b0 : decide (x13_1 < (l1.length : Int)) = true := decide_eq_true c7
        clear c7
        by_cases c8 : (rd l0 x13_1) = (rd l1 x13_1)
        ·rw [if_pos c8] at H
         obtain ⟨c8b0, c8b1⟩ := zT1 c8
         clear c8
         have H' := zA H
         clear H
         have p319 : 0 ≤ (x13_1 : Int) := zd
         have q319 : x13_1 < (l0.length : Int) := zd
         obtain ⟨ad319, e319, hx319_0⟩ := Kd.at_int HR0.out x13_1 p319 q319
         cases e319
         replace p319 := eq_true p319
         replace q319 := eq_true q319
         have p320 : 0 ≤ (x13_1 : Int) := zd
         have q320 : x13_1 < (l1.length : Int) := zd
         obtain ⟨ad320, e320, hx320_0⟩ := Kd.at_int HR1.out x13_1 p320 q320
         cases e320
         replace p320 := eq_true p320
         replace q320 := eq_true q320
         go_wp2
         repeat (go_quiet (fail); try go_wp2)
         go_roundg k1
         case measure => have := HK1.out; omega
         case rel => exact ⟨(wrap64 (x13_1 + 1)), zs, H', ⟨by have := HK1.out; omega⟩, by repeat (first | exact Drawn0.refl _ | apply Drawn0.step)⟩
        rw [if_neg c8] at H
        obtain ⟨c8b0, c8b1⟩ := zT2 c8
        obtain rfl := Option.some.inj H
        have p319 : 0 ≤ (x13_1 : Int) := zd
        have q319 : x13_1 < (l0.length : Int) := zd
        obtain ⟨ad319, e319, hx319_0⟩ := Kd.at_int HR0.out x13_1 p319 q319
        cases e319
        replace p319 := eq_true p319
        replace q319 := eq_true q319
        have p320 : 0 ≤ (x13_1 : Int) := zd
        have q320 : x13_1 < (l1.length : Int) := zd
        obtain ⟨ad320, e320, hx320_0⟩ := Kd.at_int HR1.out x13_1 p320 q320
        cases e320
        replace p320 := eq_true p320
        replace q320 := eq_true q320
        go_wp2
        repeat (go_quiet (fail); try go_wp2)
        go_ret
        exact ⟨zs, by repeat (first | exact Drawn0.refl _ | apply Drawn0.step)⟩
       rw [if_neg c7] at H
       exact absurd H (by simp)
      rw [if_neg c6] at H
      exact absurd H (by simp)
     rw [if_neg c5] at H
     exact absurd H (by simp)
    rw [if_neg c4] at H
    have c4b0 : decide (x13_1 < (l0.length : Int)) = false := decide_eq_false c4
    clear c4
    obtain rfl := Option.some.inj H
    go_wp2
    repeat (go_quiet (fail); try go_wp2)
    go_ret
    exact ⟨zs, by repeat (first | exact Drawn0.refl _ | apply Drawn0.step)⟩
 rw [if_neg c3] at H
 obtain ⟨c3b0, c3b1⟩ := zT2 c3
 have c3b2 : (l0.length == l1.length) = false := by first | simpa using c3 | (simp at c3 ⊢; omega)
 obtain rfl := Option.some.inj H
 go_enter Tryd.func38, Tryd.ntmps38
 go_wp2
 repeat (go_quiet (fail); try go_wp2)
 go_ret
 exact ⟨zs, by repeat (first | exact Drawn0.refl _ | apply Drawn0.step)⟩

/-! ### impl_conjugator: function 23: a contract of our own -/
def impl_conjugator.f (l0 : List S60) (l1 : List Int) : Option (List Int × Bool) := some (match l0.find? (fun c => decide (c.f0 = l1)) with | none => ([], false) | some c => (c.f1, true))
theorem equal_some (u v : List Int) (hl : u.length ≤ 9223372036854775807) : ∃ k, slices_Equal_int64_int64.f k u v = some (decide (u = v)) := by
 by_cases c : (u.length : Int) = (v.length : Int)
 ·have hlen : u.length = v.length := by omega
  have loop : ∀ (d i : Nat), i + d = u.length → ∃ k, slices_Equal_int64_int64.l0 k u v (u.length : Int) (i : Int) = some (decide (u.drop i = v.drop i)) := by
   intro d
   induction d with
   | zero =>
    intro i hi
    refine ⟨1, ?_⟩
    simp only [slices_Equal_int64_int64.l0]
    rw [if_neg (by omega), List.drop_of_length_le (by omega), List.drop_of_length_le (by omega)]
    simp
   | succ d ih =>
    intro i hi
    obtain ⟨k, hk⟩ := ih (i + 1) (by omega)
    refine ⟨k + 1, ?_⟩
    have e1 : rd u (i : Int) = u[i] := by simp [rd, List.getD_eq_getElem?_getD, show i < u.length by omega]
    have e2 : rd v (i : Int) = v[i] := by simp [rd, List.getD_eq_getElem?_getD, show i < v.length by omega]
    have e3 : wrap64 ((i : Int) + 1) = ((i + 1 : Nat) : Int) := by unfold wrap64; omega
    simp only [slices_Equal_int64_int64.l0]
    rw [if_pos (by omega), if_pos (by omega), if_pos (by omega), if_pos (by omega), e1, e2, e3, List.drop_eq_getElem_cons (show i < u.length by omega), List.drop_eq_getElem_cons (show i < v.length by omega)]
    by_cases g : u[i] = v[i]
    ·rw [if_pos g, hk]
     congr 1
     rw [decide_eq_decide, List.cons.injEq]
     simp [g]
    rw [if_neg g]
    congr 1
    symm
    rw [decide_eq_false]
    rw [List.cons.injEq]
    exact fun h => g h.1
  obtain ⟨k, hk⟩ := loop u.length 0 (by omega)
  exact ⟨k, by unfold slices_Equal_int64_int64.f; rw [if_pos c]; exact hk⟩
 refine ⟨0, ?_⟩
 unfold slices_Equal_int64_int64.f
 rw [if_neg c]
 congr 1
 symm
 rw [decide_eq_false]
 rintro rfl
 exact c rfl
/-- what a function value over one conjugate gives, in every later world -/
def PredT (g : Nat) (lb : Array Value) (p : S60 → Bool) (w : World) : Prop :=
 ∀ (W : World) (A A' : Option Addr) (c c' : Nat) (x : S60), Below w.heap.size w W → (Kd.int .i64).C W A x.f0.length x.f0 → x.f0.length ≤ c →
  Calls Tryd.prog g (#[.agg #[.slice A x.f0.length c, .slice A' x.f1.length c']] ++ lb) W fun e W' => e = .returned (.bool (p x)) ∧ Below W.heap.size W W'
set_option maxHeartbeats 2000000 in
theorem indexFuncT_any (A0 : Option Addr) (c0 : Nat) (l0 : List S60) (g : Nat) (lb : Array Value) (p : S60 → Bool) (w : World)
  (eg : ∀ args w, (callFunc g args).run Tryd.prog w = .ok (.enter g args) w)
  (hp : PredT g lb p w) (hr0 : Kd.C k60 w A0 l0.length l0) :
  Calls Tryd.prog 36 #[.slice A0 l0.length c0, .func (.func g) #[] lb] w fun e w' => e = .returned (.int .i64 (idxP p l0)) ∧ Below w.heap.size w w' := by
 have hl : l0.length ≤ 9223372036854775807 := hr0.2.1
 have HR0 := zA hr0
 clear hr0
 have HP := zA hp
 clear hp
 go_enter Tryd.func36, Tryd.ntmps36
 go_wp2
 go_loopg [5, 8] l0.length (fun gg _ s8 wr => ∃ kk : Nat, kk ≤ l0.length ∧ l0.length - kk ≤ gg ∧ s8 = .int .i64 kk ∧ Aside0 (Below w.heap.size w wr) ∧ Aside0 (∀ j, j < kk → p (l0.getD j z60) = false))
 case atStart => exact ⟨0, Nat.zero_le _, by omega, rfl, ⟨kW _ _⟩, ⟨fun j hj => absurd hj (Nat.not_lt_zero _)⟩⟩
 case round =>
  obtain ⟨kk, hkk, hg, rfl, HB, A⟩ := hrel
  by_cases hlt : kk < l0.length
  ·have hltz : (kk : Int) < (l0.length : Int) := by omega
   obtain ⟨ad, Aw, cw, Ay, cy, eA, hcell, hcy, hlw, hCw, hly, hCy⟩ := at_T60 HR0.out kk (by omega) hltz
   cases eA
   have B := zA (show rd_T60 l0 kk = l0.getD kk z60 by simp [rd_T60])
   generalize rd_T60 l0 kk = y at hcell hcy hlw hCw hly hCy B
   rw [Int.toNat_natCast] at hcell hcy
   have hy := zA B.out.symm
   clear B
   replace hcell := pw_cell_below HB.out hcell
   replace hcy := pw_cell_below HB.out hcy
   have hcall := HP.out wr Aw Ay cw cy y HB.out (kO hCw HB.out) hlw
   clear hlw hCw hly hCy
   cases hq : p y with
   | true =>
    rw [hq] at hcall
    replace hq := zA hq
    replace hcall := zA hcall
    go_wp2_with fail
    refine hcall.out.mono ?_
    rintro e w' ⟨rfl, hb⟩
    have HB' := zA (kQ HB.out hb)
    clear hcall hcell hb
    go_wp2
    go_ret
    refine ⟨?_, HB'.out⟩
    rw [idxP_hit z60 p l0 kk hlt (by rw [hy.out]; exact hq.out) A.out]
    rfl
   | false =>
    rw [hq] at hcall
    replace hq := zA hq
    replace hcall := zA hcall
    go_wp2_with fail
    refine hcall.out.mono ?_
    rintro e w' ⟨rfl, hb⟩
    have HB' := zA (kQ HB.out hb)
    clear hcall hcell hb
    go_wp2
    go_roundg (l0.length - (kk + 1))
    case measure => omega
    case rel =>
     refine ⟨kk + 1, by omega, by omega, by go_num, HB', ⟨fun j hj => ?_⟩⟩
     by_cases e : j = kk
     ·subst e
      rw [hy.out]; exact hq.out
     exact A.out j (by omega)
  have hltz : ¬ (kk : Int) < (l0.length : Int) := by omega
  have : kk = l0.length := by omega
  subst this
  go_wp2
  go_ret
  refine ⟨?_, HB.out⟩
  rw [idxP_miss z60 p l0 A.out]
  rfl
theorem conjugator_pred (A1 : Option Addr) (c1 : Nat) (l1 : List Int) (B : Nat) (w : World) (hB : B < w.heap.size) (hD : (Kd.int .i64).C w A1 l1.length l1) (hc : l1.length ≤ c1)
  (h0 : w.cell? ⟨B, 0, none⟩ = some (.slice A1 l1.length c1)) :
  PredT 37 #[.pointer (some ⟨B, 0, none⟩)] (fun c => decide (c.f0 = l1)) w := fun W A A' c c' x hb hx hcx => by
 have hW2 : Below W.heap.size W (W.alloc (.cells #[.slice A x.f0.length c, .slice A' x.f1.length c'] 60)) := zB (kW _ W) _
 have k0 : (W.alloc (.cells #[.slice A x.f0.length c, .slice A' x.f1.length c'] 60)).cell? ⟨B, 0, none⟩ = some (.slice A1 l1.length c1) := pw_cell_below hW2 ((hb.cell (p := ⟨B, 0, none⟩) hB).trans h0)
 obtain ⟨k, hk⟩ := equal_some x.f0 l1 hx.2.1
 have hcall := slices_Equal_int64_int64.calls k A c x.f0 A1 c1 l1 _ _ (kO hx hW2) hcx (kO (kO hD hb) hW2) hc hk
 replace hW2 := zA hW2
 replace hcall := zA hcall
 clear h0 hb hx hcx hD hc hk
 show Calls Tryd.prog 37 #[.agg #[.slice A x.f0.length c, .slice A' x.f1.length c'], .pointer (some ⟨B, 0, none⟩)] W fun e W' => e = .returned (.bool (decide (x.f0 = l1))) ∧ Below W.heap.size W W'
 generalize decide (x.f0 = l1) = b at hcall ⊢
 have hu := Tryd.underlying60
 go_enter Tryd.func37, Tryd.ntmps37
 go_wp2_with fail
 refine hcall.out.mono ?_
 rintro e w' ⟨rfl, hd⟩
 have hb := zA (kQ hW2.out (Drawn0.below hd))
 clear hcall hd
 go_wp2
 go_ret
 exact ⟨rfl, hb.out⟩
theorem find_idx (p : S60 → Bool) : ∀ l : List S60, (match l.find? p with | none => idxP p l = -1 | some c => ∃ i : Nat, idxP p l = i ∧ i < l.length ∧ l.getD i z60 = c) := by
 intro l
 cases h : l.find? p with
 | none =>
  simp only []
  unfold idxP
  rw [if_neg]
  intro hh
  obtain ⟨x, hx, hpx⟩ := List.any_eq_true.1 hh
  exact List.find?_eq_none.1 h x hx hpx
 | some c =>
  simp only []
  have h1 : l.any p = true := List.any_eq_true.2 ⟨c, List.mem_of_find?_eq_some h, List.find?_some h⟩
  refine ⟨l.findIdx p, ?_, ?_, ?_⟩
  ·unfold idxP; rw [if_pos h1]
  ·exact List.findIdx_lt_length_of_exists (List.any_eq_true.1 h1)
  have h2 : l.find? p = l[l.findIdx p]? := List.find?_eq_getElem?_findIdx ..
  rw [List.getD_eq_getElem?_getD, ← h2, h]
  rfl
set_option maxHeartbeats 2000000 in
set_option maxRecDepth 100000 in
theorem impl_conjugator.calls (P0_ : Nat → Prop) (A0 : Option Addr) (c0 : Nat) (l0 : List S60) (A1 : Option Addr) (c1 : Nat) (l1 : List Int) (r1 : List Int) (r2 : Bool) (w : World) (hs0 : Kd.V k60 60 w w.heap.size (fun k_ => P0_ k_) (.slice A0 l0.length c0) l0) (hr1 : Kd.C (Kd.int .i64) w A1 l1.length l1) (hc1 : l1.length ≤ c1) (h : impl_conjugator.f l0 l1 = some (r1, r2)) :
  Calls Tryd.prog 23 #[.slice A0 l0.length c0, .slice A1 l1.length c1] w fun e w' => ∃ v0_ : Value, e = .returned (.tuple #[v0_, .bool r2]) ∧ Kd.V (Kd.int .i64) 2 w' w.heap.size (fun k_ => (P0_ k_ ∨ w.heap.size ≤ k_)) v0_ r1 ∧ Below w.heap.size w w' := by
 have hW : Below w.heap.size w (w.alloc (.cells #[.slice A1 l1.length c1] 22)) := zB (kW _ w) _
 have eg : ∀ args w, (callFunc 37 args).run Tryd.prog w = .ok (.enter 37 args) w := enters_fn Tryd.func37 (by kernel_rfl) rfl
 have hcon := indexFuncT_any A0 c0 l0 37 #[.pointer (some ⟨w.heap.size, 0, none⟩)] (fun c => decide (c.f0 = l1)) _ eg
  (conjugator_pred A1 c1 l1 w.heap.size (w.alloc (.cells #[.slice A1 l1.length c1] 22)) (by simp) (kO hr1 hW) hc1 (by simp)) (kO (kJ hs0).2.2 hW)
 have hf := find_idx (fun c => decide (c.f0 = l1)) l0
 unfold impl_conjugator.f at h
 replace h := Option.some.inj h
 have HS := zA hs0
 replace hW := zA hW
 replace hcon := zA hcon
 clear hs0 hr1 hc1 eg
 generalize idxP (fun c : S60 => decide (c.f0 = l1)) l0 = ix at hcon hf
 cases hq : l0.find? (fun c => decide (c.f0 = l1)) with
 | none =>
  rw [hq] at h hf
  simp only [Prod.mk.injEq] at h hf
  obtain ⟨rfl, rfl⟩ := h
  subst hf
  clear hq
  go_enter Tryd.func23, Tryd.ntmps23
  go_wp2_with fail
  refine hcon.out.mono ?_
  rintro e w' ⟨rfl, hb⟩
  replace hb := zA hb
  clear hcon
  go_wp2
  go_ret2
  exact ⟨_, rfl, jL (jO (Kd.int .i64) 2 w' w.heap.size _), kQ hW.out hb.out⟩
 | some c =>
  rw [hq] at h hf
  simp only [Prod.mk.injEq] at h hf
  obtain ⟨i, rfl, hi, hc⟩ := hf
  obtain ⟨rfl, rfl⟩ := h
  clear hq
  obtain ⟨ad, cs, eA, _, hFK, hcell0, _⟩ := Kd.F_get (jB HS.out) z60 (i : Int) (by omega) (by omega)
  subst eA
  rw [Int.toNat_natCast, hc] at hFK
  rw [Int.toNat_natCast] at hcell0
  obtain ⟨Aw, cw, Ay, cy, rfl, _, _, hly, hFy⟩ := k60_openF hFK
  have hcy : w.cell? ⟨(ad.add (i * 2)).block, (ad.add (i * 2)).off + 1, none⟩ = some (.slice Ay c.f1.length cy) := by
   rw [← add_field _ _ 1 (by omega)]
   exact hcell0 1 _ rfl
  have HV := zA (Kd.V_mk (e := 2) (base := 0) hly hFy)
  have HCY := zA hcy
  clear hcell0 hFK hly hFy hc hcy
  have hi' : (i : Int) < (l0.length : Int) := by omega
  go_enter Tryd.func23, Tryd.ntmps23
  go_wp2_with fail
  refine hcon.out.mono ?_
  rintro e w' ⟨rfl, hb⟩
  have HB' := zA (kQ hW.out hb)
  have hcy := pw_cell_below HB'.out HCY.out
  clear hcon hb
  have hi0 : ¬ (i : Int) < 0 := by omega
  go_wp2
  go_ret2
  exact ⟨_, rfl, kN (kG HV.out HB'.out) (fun _ hk_ => .inl hk_), HB'.out⟩

/-! ### laws_eqInt64S: function 11 -/
def laws_eqInt64S.l0 : Nat → List Int → List Int → Int → Option (Bool)
 | 0, _, _, _ => none
 | k + 1, x0, x1, x5 => if x5 < (x0.length : Int) then (if 0 ≤ x5 then (if x5 < (x1.length : Int) then (if (rd x0 x5) = (rd x1 x5) then (laws_eqInt64S.l0 k x0 x1 (wrap64 (x5 + 1))) else (some false)) else (none)) else (none)) else (some true)
def laws_eqInt64S.f (k : Nat) (l0 : List Int) (l1 : List Int) : Option (Bool) := if (l0.length : Int) = (l1.length : Int) then (laws_eqInt64S.l0 k l0 l1 0) else (some false)

set_option maxHeartbeats 8000000 in
set_option maxRecDepth 100000 in
theorem laws_eqInt64S.calls (k : Nat) (A0 : Option Addr) (c0 : Nat) (l0 : List Int) (A1 : Option Addr) (c1 : Nat) (l1 : List Int) (r : Bool) (w : World) (hr0 : Kd.C (Kd.int .i64) w A0 l0.length l0) (hc0 : l0.length ≤ c0) (hr1 : Kd.C (Kd.int .i64) w A1 l1.length l1) (hc1 : l1.length ≤ c1) (h : laws_eqInt64S.f k l0 l1 = some r) :
  Calls Tryd.prog 11 #[.slice A0 l0.length c0, .slice A1 l1.length c1] w fun e w' => e = .returned (.bool r) ∧ Drawn0 w w' := by
 have HR0 := zA hr0
 have HC0 := zA hc0
 clear hr0 hc0
 have HR1 := zA hr1
 have HC1 := zA hc1
 clear hr1 hc1
 have H := h
 unfold laws_eqInt64S.f at H
 clear h
 by_cases c3 : (l0.length : Int) = (l1.length : Int)
 ·rw [if_pos c3] at H
  obtain ⟨c3b0, c3b1⟩ := zT1 c3
  have c3b2 : (l0.length == l1.length) = true := by first | simpa using c3 | (simp at c3 ⊢; omega)
  clear c3
  have H' := zA H
  clear H
  go_enter Tryd.func11, Tryd.ntmps11
  go_wp2
  repeat (go_quiet (fail); try go_wp2)
  go_loopg [5] k (fun kq v5 w' => ∃ (x5_1 : Int), v5 = .int .i64 x5_1 ∧ Aside0 (laws_eqInt64S.l0 kq l0 l1 x5_1 = some r) ∧ Aside0 (kq ≤ k) ∧ Drawn0 w w')
  case atStart => exact ⟨(0), zs, H', ⟨Nat.le_refl _⟩, by repeat (first | exact Drawn0.refl _ | apply Drawn0.step)⟩
  case round =>
   clear H'
   try clear c1
   try clear c3
   obtain ⟨x5_1, rfl, HA, HK1, ⟨m1, rfl⟩⟩ := hrel
   cases gk with
   | zero => exact absurd HA.out (by simp [laws_eqInt64S.l0])
   | succ k1 =>
    have H := HA.out
    clear HA
    simp only [laws_eqInt64S.l0] at H
    by_cases c4 : x5_1 < (l0.length : Int)
    ·rw [if_pos c4] at H
     have c4b0 : decide (x5_1 < (l0.length : Int)) = true := decide_eq_true c4
     clear c4
     by_cases c5 : 0 ≤ x5_1
     ·rw [if_pos c5] at H
      have c5b0 : decide (0 ≤ x5_1) = true := decide_eq_true c5
      clear c5
      by_cases c6 : x5_1 < (l1.length : Int)
      ·rw [if_pos c6] at H
       have c6b0 : decide (x5_1 < (l1.length : Int)) = true := decide_eq_true c6
       clear c6
       by_cases c7 : (rd l0 x5_1) = (rd l1 x5_1)
       ·rw [if_pos c7] at H
        obtain ⟨c7b0, c7b1⟩ := zT1 c7
        clear c7
        have H' := zA H
        clear H
        have p339 : 0 ≤ (x5_1 : Int) := zd
        have q339 : x5_1 < (l0.length : Int) := zd
        obtain ⟨ad339, e339, hx339_0⟩ := Kd.at_int HR0.out x5_1 p339 q339
        cases e339
        replace p339 := eq_true p339
        replace q339 := eq_true q339
        have p340 : 0 ≤ (x5_1 : Int) := zd
        have q340 : x5_1 < (l1.length : Int) := zd
        obtain ⟨ad340, e340, hx340_0⟩ := Kd.at_int HR1.out x5_1 p340 q340
        cases e340
        replace p340 := eq_true p340
        replace q340 := eq_true q340
        go_wp2
        repeat (go_quiet (fail); try go_wp2)
        go_roundg k1
        case measure => have := HK1.out; omega
        case rel => exact ⟨(wrap64 (x5_1 + 1)), zs, H', ⟨by have := HK1.out; omega⟩, by repeat (first | exact Drawn0.refl _ | apply Drawn0.step)⟩
       rw [if_neg c7] at H
       obtain ⟨c7b0, c7b1⟩ := zT2 c7
       obtain rfl := Option.some.inj H
       have p339 : 0 ≤ (x5_1 : Int) := zd
       have q339 : x5_1 < (l0.length : Int) := zd
       obtain ⟨ad339, e339, hx339_0⟩ := Kd.at_int HR0.out x5_1 p339 q339
       cases e339
       replace p339 := eq_true p339
       replace q339 := eq_true q339
       have p340 : 0 ≤ (x5_1 : Int) := zd
       have q340 : x5_1 < (l1.length : Int) := zd
       obtain ⟨ad340, e340, hx340_0⟩ := Kd.at_int HR1.out x5_1 p340 q340
       cases e340
       replace p340 := eq_true p340
       replace q340 := eq_true q340
       go_wp2
       repeat (go_quiet (fail); try go_wp2)
       go_ret
       exact ⟨zs, by repeat (first | exact Drawn0.refl _ | apply Drawn0.step)⟩
      rw [if_neg c6] at H
      exact absurd H (by simp)
     rw [if_neg c5] at H
     exact absurd H (by simp)
    rw [if_neg c4] at H
    have c4b0 : decide (x5_1 < (l0.length : Int)) = false := decide_eq_false c4
    clear c4
    obtain rfl := Option.some.inj H
    go_wp2
    repeat (go_quiet (fail); try go_wp2)
    go_ret
    exact ⟨zs, by repeat (first | exact Drawn0.refl _ | apply Drawn0.step)⟩
 rw [if_neg c3] at H
 obtain ⟨c3b0, c3b1⟩ := zT2 c3
 have c3b2 : (l0.length == l1.length) = false := by first | simpa using c3 | (simp at c3 ⊢; omega)
 obtain rfl := Option.some.inj H
 go_enter Tryd.func11, Tryd.ntmps11
 go_wp2
 repeat (go_quiet (fail); try go_wp2)
 go_ret
 exact ⟨zs, by repeat (first | exact Drawn0.refl _ | apply Drawn0.step)⟩

/-! ### laws_eqAlphabet: function 10 -/
def laws_eqAlphabet.f (k : Nat) (a0_0 : Int) (l0_1 : List Int) (a1_0 : Int) (l1_1 : List Int) : Option (Bool) := if a0_0 = a1_0 then ((laws_eqInt64S.f k l0_1 l1_1).bind fun t343 => (if t343 = true then (some true) else (some false))) else (some false)

set_option maxHeartbeats 8000000 in
set_option maxRecDepth 100000 in
theorem laws_eqAlphabet.calls (k : Nat) (a0_0 : Int) (A0_1 : Option Addr) (c0_1 : Nat) (l0_1 : List Int) (a1_0 : Int) (A1_1 : Option Addr) (c1_1 : Nat) (l1_1 : List Int) (r : Bool) (w : World) (hr0_1 : Kd.C (Kd.int .i64) w A0_1 l0_1.length l0_1) (hc0_1 : l0_1.length ≤ c0_1) (hr1_1 : Kd.C (Kd.int .i64) w A1_1 l1_1.length l1_1) (hc1_1 : l1_1.length ≤ c1_1) (h : laws_eqAlphabet.f k a0_0 l0_1 a1_0 l1_1 = some r) :
  Calls Tryd.prog 10 #[.agg #[.int .i64 a0_0, .slice A0_1 l0_1.length c0_1], .agg #[.int .i64 a1_0, .slice A1_1 l1_1.length c1_1]] w fun e w' => e = .returned (.bool r) ∧ Below w.heap.size w w' := by
 have hu28 := Tryd.underlying28
 have HR0_1 := zA hr0_1
 have HC0_1 := zA hc0_1
 clear hr0_1 hc0_1
 have HR1_1 := zA hr1_1
 have HC1_1 := zA hc1_1
 clear hr1_1 hc1_1
 have HB := zA (kW w.heap.size w)
 have H := h
 unfold laws_eqAlphabet.f at H
 clear h
 by_cases c3 : a0_0 = a1_0
 ·rw [if_pos c3] at H
  obtain ⟨c3b0, c3b1⟩ := zT1 c3
  clear c3
  obtain ⟨t343, A4, H⟩ := zb H
  try dsimp only at H
  by_cases c5 : t343 = true
  ·subst c5
   rw [if_pos rfl] at H
   obtain rfl := Option.some.inj H
   go_enter Tryd.func10, Tryd.ntmps10
   go_wp2_with (first | (refine zBE 2 #[.int .i64 a0_0, .slice A0_1 l0_1.length c0_1] 28 ?_; intro gb341 hg w6 hbox hb; have BK341 := zA (hbox); have GW341 := zA (zBH hg HB.out); have GE341 := zA (zBH hg HB.out); replace HB := zA (kQ (zQ HB.out) hb); clear hb hbox hg) | (refine zBE 3 #[.int .i64 a1_0, .slice A1_1 l1_1.length c1_1] 28 ?_; intro gb342 hg w7 hbox hb; have BK342 := zA (hbox); have GW342 := zA (zB6 hg (kP (zT HB.out GE341.out)) : w.heap.size ≤ gb342); have GE342 := zA (zB6 hg (kP (zT HB.out GE341.out)) : w.heap.size ≤ gb342); replace HB := zA (kQ (zT HB.out GE341.out) hb); have NB341_342 := zA (zB4 hg BK341.out : gb341 ≠ gb342); have NB342_341 := zA (zB5 hg BK341.out : gb342 ≠ gb341); replace BK341 := zA (zB1 BK341.out hb); clear hb hbox hg; have hnb8 := NB341_342.out; have hnc8 := NB342_341.out; obtain ⟨hcz9_0, hcz9_1, hfz9_0, hfz9_1⟩ := zB3 BK341.out; obtain ⟨hcz10_0, hcz10_1, hfz10_0, hfz10_1⟩ := zB3 BK342.out) | (refine zO (some 14) Tryd.func11 #[.slice A0_1 l0_1.length c0_1, .slice A1_1 l1_1.length c1_1] ?_; (with_reducible refine (laws_eqInt64S.calls k _ _ l0_1 _ _ l1_1 true _ ?side1 ?side2 ?side3 ?side4 A4.out).mono ?_); (case side1 => exact zS (kO HR0_1.out HB.out)); (case side2 => exact HC0_1.out); (case side3 => exact zS (kO HR1_1.out HB.out)); (case side4 => exact HC1_1.out); rintro e w' ⟨rfl, ⟨nd, rfl⟩⟩; refine ⟨_, rfl, ?_⟩))
   go_ret
   exact ⟨zr, zV HB.out GE341.out GE342.out⟩
  replace c5 := Bool.eq_false_iff.mpr c5
  subst c5
  rw [if_neg (show ¬ (false = true) by decide)] at H
  obtain rfl := Option.some.inj H
  go_enter Tryd.func10, Tryd.ntmps10
  go_wp2_with (first | (refine zBE 2 #[.int .i64 a0_0, .slice A0_1 l0_1.length c0_1] 28 ?_; intro gb341 hg w11 hbox hb; have BK341 := zA (hbox); have GW341 := zA (zBH hg HB.out); have GE341 := zA (zBH hg HB.out); replace HB := zA (kQ (zQ HB.out) hb); clear hb hbox hg) | (refine zBE 3 #[.int .i64 a1_0, .slice A1_1 l1_1.length c1_1] 28 ?_; intro gb342 hg w12 hbox hb; have BK342 := zA (hbox); have GW342 := zA (zB6 hg (kP (zT HB.out GE341.out)) : w.heap.size ≤ gb342); have GE342 := zA (zB6 hg (kP (zT HB.out GE341.out)) : w.heap.size ≤ gb342); replace HB := zA (kQ (zT HB.out GE341.out) hb); have NB341_342 := zA (zB4 hg BK341.out : gb341 ≠ gb342); have NB342_341 := zA (zB5 hg BK341.out : gb342 ≠ gb341); replace BK341 := zA (zB1 BK341.out hb); clear hb hbox hg; have hnb13 := NB341_342.out; have hnc13 := NB342_341.out; obtain ⟨hcz14_0, hcz14_1, hfz14_0, hfz14_1⟩ := zB3 BK341.out; obtain ⟨hcz15_0, hcz15_1, hfz15_0, hfz15_1⟩ := zB3 BK342.out) | (refine zO (some 14) Tryd.func11 #[.slice A0_1 l0_1.length c0_1, .slice A1_1 l1_1.length c1_1] ?_; (with_reducible refine (laws_eqInt64S.calls k _ _ l0_1 _ _ l1_1 false _ ?side1 ?side2 ?side3 ?side4 A4.out).mono ?_); (case side1 => exact zS (kO HR0_1.out HB.out)); (case side2 => exact HC0_1.out); (case side3 => exact zS (kO HR1_1.out HB.out)); (case side4 => exact HC1_1.out); rintro e w' ⟨rfl, ⟨nd, rfl⟩⟩; refine ⟨_, rfl, ?_⟩))
  go_ret
  exact ⟨zr, zV HB.out GE341.out GE342.out⟩
 rw [if_neg c3] at H
 obtain ⟨c3b0, c3b1⟩ := zT2 c3
 obtain rfl := Option.some.inj H
 go_enter Tryd.func10, Tryd.ntmps10
 go_wp2_with (first | (refine zBE 2 #[.int .i64 a0_0, .slice A0_1 l0_1.length c0_1] 28 ?_; intro gb341 hg w16 hbox hb; have BK341 := zA (hbox); have GW341 := zA (zBH hg HB.out); have GE341 := zA (zBH hg HB.out); replace HB := zA (kQ (zQ HB.out) hb); clear hb hbox hg) | (refine zBE 3 #[.int .i64 a1_0, .slice A1_1 l1_1.length c1_1] 28 ?_; intro gb342 hg w17 hbox hb; have BK342 := zA (hbox); have GW342 := zA (zB6 hg (kP (zT HB.out GE341.out)) : w.heap.size ≤ gb342); have GE342 := zA (zB6 hg (kP (zT HB.out GE341.out)) : w.heap.size ≤ gb342); replace HB := zA (kQ (zT HB.out GE341.out) hb); have NB341_342 := zA (zB4 hg BK341.out : gb341 ≠ gb342); have NB342_341 := zA (zB5 hg BK341.out : gb342 ≠ gb341); replace BK341 := zA (zB1 BK341.out hb); clear hb hbox hg; have hnb18 := NB341_342.out; have hnc18 := NB342_341.out; obtain ⟨hcz19_0, hcz19_1, hfz19_0, hfz19_1⟩ := zB3 BK341.out; obtain ⟨hcz20_0, hcz20_1, hfz20_0, hfz20_1⟩ := zB3 BK342.out))
 go_ret
 exact ⟨zr, zV HB.out GE341.out GE342.out⟩

end Go.Proofs.YtinkolnhpgilpaaDoor.PAll
