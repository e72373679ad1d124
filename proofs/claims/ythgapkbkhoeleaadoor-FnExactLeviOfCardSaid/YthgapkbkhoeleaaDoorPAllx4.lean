-- Printed by a program of the session (wip/tools/pgen.py) out of the translation. Not trusted: Lean checks it.
import Derived.Test.YthgapkbkhoeleaaDoorPAllx0
import Derived.Test.YthgapkbkhoeleaaDoorPAllx3
namespace Go.Proofs.YthgapkbkhoeleaaDoor.PAll
open Go.RowKit Go.Proofs.YthgapkbkhoeleaaDoor.T Go.Proofs.YthgapkbkhoeleaaDoorW.PrintWords Go.Proofs.YthgapkbkhoeleaaDoorW.PrintLast Go.Proofs.YthgapkbkhoeleaaDoorW.PrintMore
attribute [local go_sem] max2_int min2_int max_two min_two max_three min_three max_four min_four   -- for this text's walks alone
set_option linter.unusedVariables false
set_option linter.unusedSimpArgs false

/-! ### impl_ties_firsts: function 157 -/
def impl_ties_firsts.l0 : Nat → List Int → Int → Int → List Int → Int → Int → Option (Int)
 | 0, _, _, _, _, _, _ => none
 | k + 1, x0, x5, x6, x9, x10, x11 => if x11 < x10 then (if 0 ≤ x11 then (if x11 < (x9.length : Int) then ((impl_has.f x6 (rd x9 x11)).bind fun t304 => (if t304 = true then (if 0 ≤ (rd x9 x11) then (if (rd x9 x11) < (x0.length : Int) then (impl_ties_firsts.l0 k x0 x5 (Go.bits .or .i64 x6 (rd x0 (rd x9 x11))) x9 x10 (wrap64 (x11 + 1))) else (none)) else (none)) else ((impl_one.f (rd x9 x11)).bind fun t306 => (if 0 ≤ (rd x9 x11) then (if (rd x9 x11) < (x0.length : Int) then (impl_ties_firsts.l0 k x0 (Go.bits .or .i64 x5 t306) (Go.bits .or .i64 x6 (rd x0 (rd x9 x11))) x9 x10 (wrap64 (x11 + 1))) else (none)) else (none))))) else (none)) else (none)) else (some x5)
def impl_ties_firsts.f (k : Nat) (l0 : List Int) (l1 : List Int) : Option (Int) := impl_ties_firsts.l0 k l0 0 0 l1 (l1.length : Int) 0

set_option maxHeartbeats 8000000 in
set_option maxRecDepth 100000 in
theorem impl_ties_firsts.calls (k : Nat) (A0 : Option Addr) (c0 : Nat) (l0 : List Int) (A1 : Option Addr) (c1 : Nat) (l1 : List Int) (r : Int) (w : World) (hr0 : Kd.C (Kd.int .i64) w A0 l0.length l0) (hc0 : l0.length ≤ c0) (hr1 : Kd.C (Kd.int .i64) w A1 l1.length l1) (hc1 : l1.length ≤ c1) (h : impl_ties_firsts.f k l0 l1 = some r) :
  Calls Tryd.prog 157 #[.slice A0 l0.length c0, .slice A1 l1.length c1] w fun e w' => e = .returned (.int .i64 r) ∧ Drawn0 w w' := by
 have HR0 := zA hr0
 have HC0 := zA hc0
 clear hr0 hc0
 have HR1 := zA hr1
 have HC1 := zA hc1
 clear hr1 hc1
 have H := h
 unfold impl_ties_firsts.f at H
 clear h
 have H' := zA H
 clear H
 go_enter Tryd.func157, Tryd.ntmps157
 go_wp2
 go_loopg [5, 6, 11] k (fun kq v5 v6 v11 w' => ∃ (x5_1 : Int) (x6_1 : Int) (x11_1 : Int), v5 = .int .i64 x5_1 ∧ v6 = .int .i64 x6_1 ∧ v11 = .int .i64 x11_1 ∧ Aside0 (impl_ties_firsts.l0 kq l0 x5_1 x6_1 l1 (l1.length : Int) x11_1 = some r) ∧ Aside0 (kq ≤ k) ∧ Drawn0 w w')
 case atStart => exact ⟨(0), (0), (0), zs, zs, zs, H', ⟨Nat.le_refl _⟩, by repeat (first | exact Drawn0.refl _ | apply Drawn0.step)⟩
 case round =>
  clear H'
  try clear c1
  obtain ⟨x5_1, x6_1, x11_1, rfl, rfl, rfl, HA, HK1, ⟨m1, rfl⟩⟩ := hrel
  cases gk with
  | zero => exact absurd HA.out (by simp [impl_ties_firsts.l0])
  | succ k1 =>
   have H := HA.out
   clear HA
   simp only [impl_ties_firsts.l0] at H
   by_cases c3 : x11_1 < (l1.length : Int)
   ·rw [if_pos c3] at H
    have c3b0 : decide (x11_1 < (l1.length : Int)) = true := decide_eq_true c3
    clear c3
    by_cases c4 : 0 ≤ x11_1
    ·rw [if_pos c4] at H
     have c4b0 : decide (0 ≤ x11_1) = true := decide_eq_true c4
     clear c4
     by_cases c5 : x11_1 < (l1.length : Int)
     ·rw [if_pos c5] at H
      have c5b0 : decide (x11_1 < (l1.length : Int)) = true := decide_eq_true c5
      clear c5
      obtain ⟨t304, A6, H⟩ := zb H
      try dsimp only at H
      by_cases c7 : t304 = true
      ·subst c7
       rw [if_pos rfl] at H
       by_cases c8 : 0 ≤ (rd l1 x11_1)
       ·rw [if_pos c8] at H
        have c8b0 : decide (0 ≤ (rd l1 x11_1)) = true := decide_eq_true c8
        clear c8
        by_cases c9 : (rd l1 x11_1) < (l0.length : Int)
        ·rw [if_pos c9] at H
         have c9b0 : decide ((rd l1 x11_1) < (l0.length : Int)) = true := decide_eq_true c9
         clear c9
         have H' := zA H
         clear H
         have p303 : 0 ≤ (x11_1 : Int) := zd
         have q303 : x11_1 < (l1.length : Int) := zd
         obtain ⟨ad303, e303, hx303_0⟩ := Kd.at_int HR1.out x11_1 p303 q303
         cases e303
         replace p303 := eq_true p303
         replace q303 := eq_true q303
         go_wp2_with (first | (refine zO (some 17) Tryd.func159 #[.int .i64 x6_1, .int .i64 (rd l1 x11_1)] ?_; (with_reducible refine (impl_has.calls x6_1 (rd l1 x11_1) true _ A6.out).mono ?_); rintro e w' ⟨rfl, ⟨nd, rfl⟩⟩; refine ⟨_, rfl, ?_⟩; have p305 : 0 ≤ ((rd l1 x11_1) : Int) := zd; have q305 : (rd l1 x11_1) < (l0.length : Int) := zd; obtain ⟨ad305, e305, hx305_0⟩ := Kd.at_int HR0.out (rd l1 x11_1) p305 q305; cases e305; replace p305 := eq_true p305; replace q305 := eq_true q305))
         go_roundg k1
         case measure => have := HK1.out; omega
         case rel => exact ⟨(x5_1), (Go.bits .or .i64 x6_1 (rd l0 (rd l1 x11_1))), (wrap64 (x11_1 + 1)), zs, zs, zs, H', ⟨by have := HK1.out; omega⟩, by repeat (first | exact Drawn0.refl _ | apply Drawn0.step)⟩
        rw [if_neg c9] at H
        exact absurd H (by simp)
       rw [if_neg c8] at H
       exact absurd H (by simp)
      replace c7 := Bool.eq_false_iff.mpr c7
      subst c7
      rw [if_neg (show ¬ (false = true) by decide)] at H
      obtain ⟨t306, A10, H⟩ := zb H
      try dsimp only at H
      by_cases c11 : 0 ≤ (rd l1 x11_1)
      ·rw [if_pos c11] at H
       have c11b0 : decide (0 ≤ (rd l1 x11_1)) = true := decide_eq_true c11
       clear c11
       by_cases c12 : (rd l1 x11_1) < (l0.length : Int)
       ·rw [if_pos c12] at H
        have c12b0 : decide ((rd l1 x11_1) < (l0.length : Int)) = true := decide_eq_true c12
        clear c12
        have H' := zA H
        clear H
        have p303 : 0 ≤ (x11_1 : Int) := zd
        have q303 : x11_1 < (l1.length : Int) := zd
        obtain ⟨ad303, e303, hx303_0⟩ := Kd.at_int HR1.out x11_1 p303 q303
        cases e303
        replace p303 := eq_true p303
        replace q303 := eq_true q303
        go_wp2_with (first | (refine zO (some 17) Tryd.func159 #[.int .i64 x6_1, .int .i64 (rd l1 x11_1)] ?_; (with_reducible refine (impl_has.calls x6_1 (rd l1 x11_1) false _ A6.out).mono ?_); rintro e w' ⟨rfl, ⟨nd, rfl⟩⟩; refine ⟨_, rfl, ?_⟩) | (refine zO (some 21) Tryd.func118 #[.int .i64 (rd l1 x11_1)] ?_; (with_reducible refine (impl_one.calls (rd l1 x11_1) t306 _ A10.out).mono ?_); rintro e w' ⟨rfl, ⟨nd, rfl⟩⟩; refine ⟨_, rfl, ?_⟩; have p307 : 0 ≤ ((rd l1 x11_1) : Int) := zd; have q307 : (rd l1 x11_1) < (l0.length : Int) := zd; obtain ⟨ad307, e307, hx307_0⟩ := Kd.at_int HR0.out (rd l1 x11_1) p307 q307; cases e307; replace p307 := eq_true p307; replace q307 := eq_true q307))
        go_roundg k1
        case measure => have := HK1.out; omega
        case rel => exact ⟨(Go.bits .or .i64 x5_1 t306), (Go.bits .or .i64 x6_1 (rd l0 (rd l1 x11_1))), (wrap64 (x11_1 + 1)), zs, zs, zs, H', ⟨by have := HK1.out; omega⟩, by repeat (first | exact Drawn0.refl _ | apply Drawn0.step)⟩
       rw [if_neg c12] at H
       exact absurd H (by simp)
      rw [if_neg c11] at H
      exact absurd H (by simp)
     rw [if_neg c5] at H
     exact absurd H (by simp)
    rw [if_neg c4] at H
    exact absurd H (by simp)
   rw [if_neg c3] at H
   have c3b0 : decide (x11_1 < (l1.length : Int)) = false := decide_eq_false c3
   clear c3
   obtain rfl := Option.some.inj H
   go_wp2
   go_ret
   exact ⟨zs, by repeat (first | exact Drawn0.refl _ | apply Drawn0.step)⟩

-- NOT PRINTED: function 156 (slices_Grow_int64_int64)

/-! ### slices_Concat_int64_int64: function 85: a contract of our own -/
def slices_Concat_int64_int64.f (l0 : List (List Int)) : Option (List Int) := if (l0.map List.length).sum < 17592186044416 then some l0.flatten else none
theorem pw_wrap64_id {x : Int} (h1 : -9223372036854775808 ≤ x) (h2 : x ≤ 9223372036854775807) : wrap64 x = x := by
 unfold wrap64
 omega
set_option maxHeartbeats 2000000 in
set_option maxRecDepth 100000 in
theorem grow_nil (n : Int) (h0 : 0 ≤ n) (hn : n < 17592186044416) (w : World) :
  Calls Tryd.prog 156 #[.slice none 0 0, .int .i64 n] w fun e w' => ∃ v0_ : Value, e = .returned (v0_) ∧ Kd.R (Kd.int .i64) 2 w' w.heap.size (fun _ => True) v0_ [] ∧ Below w.heap.size w w' := by
 have e0 : (n < 0) = False := by simp; omega
 by_cases hp : 0 < n
 ·have e1 : (0 < n) = True := by simp [hp]
  go_enter Tryd.func156, Tryd.ntmps156
  go_wp2_with (first | ((with_reducible refine gate_builtin (b := .append) (xs := #[.tmp 20, .tmp 21]) rfl ?_); at_builtin; refine Kd.R_append_zeros (Kd.int .i64) (w0 := w) w.heap.size rfl (.tmp 20) (.tmp 21) 22 3 2 (.int .i64 0) 8 rfl Tryd.underlying22 Tryd.underlying3 info2 rfl (by decide) (by omega) (.slice none 0 0) [] 0 n (fun _ => True) rfl rfl rfl (fun _ _ => trivial) (jO _ _ _ _ _) h0 (kW _ _) (Nat.le_refl _) (by simp; omega) ?_; intro v1 w1 ho hb hg hat; have hs := kM ho; obtain ⟨A1, c1, rfl⟩ := hs; have HO := zA (Kd.R_take ho (Nat.zero_le _)); have HB := zA hb; clear ho hb hg hat))
  go_ret
  exact ⟨_, rfl, HO.out, HB.out⟩
 have e1 : n = 0 := by omega
 subst e1
 go_enter Tryd.func156, Tryd.ntmps156
 go_wp2
 go_ret
 exact ⟨_, rfl, jO _ _ _ _ _, kW _ _⟩
theorem take_sum_step (l : List (List Int)) (k : Nat) (hk : k < l.length) : ((l.take (k + 1)).map List.length).sum = ((l.take k).map List.length).sum + (l.getD k []).length := by
 rw [List.take_add_one, List.getElem?_eq_getElem hk, List.map_append, List.sum_append]
 simp [List.getD_eq_getElem?_getD, hk]
theorem take_sum_le (l : List (List Int)) (k : Nat) : ((l.take k).map List.length).sum ≤ (l.map List.length).sum := by
 have h : (l.map List.length).sum = ((l.take k).map List.length).sum + ((l.drop k).map List.length).sum := by
  rw [← List.sum_append, ← List.map_append, List.take_append_drop]
 omega
theorem take_flatten_step (l : List (List Int)) (k : Nat) (hk : k < l.length) : (l.take (k + 1)).flatten = (l.take k).flatten ++ l.getD k [] := by
 rw [List.take_add_one, List.getElem?_eq_getElem hk, List.flatten_append]
 simp [List.getD_eq_getElem?_getD, hk]
set_option maxHeartbeats 4000000 in
set_option maxRecDepth 100000 in
theorem slices_Concat_int64_int64.calls (A0 : Option Addr) (c0 : Nat) (l0 : List (List Int)) (r : List Int) (w : World) (hr0 : Kd.C (Kd.slice 22 (Kd.int .i64)) w A0 l0.length l0) (hc0 : l0.length ≤ c0) (h : slices_Concat_int64_int64.f l0 = some r) :
  Calls Tryd.prog 85 #[.slice A0 l0.length c0] w fun e w' => ∃ v0_ : Value, e = .returned (v0_) ∧ Kd.R (Kd.int .i64) 2 w' w.heap.size (fun _ => True) v0_ r ∧ Below w.heap.size w w' := by
 unfold slices_Concat_int64_int64.f at h
 by_cases hT : (l0.map List.length).sum < 17592186044416
 ·rw [if_pos hT] at h
  obtain rfl := Option.some.inj h
  clear h hc0
  have hl : l0.length ≤ 9223372036854775807 := hr0.2.1
  have HR0 := zA hr0
  have HT := zA hT
  clear hr0 hT
  go_enter Tryd.func85, Tryd.ntmps85
  go_wp2
  go_loopg [3, 5, 11] l0.length (fun gg v3 _ v11 wr => ∃ kk : Nat, kk ≤ l0.length ∧ l0.length - kk ≤ gg ∧ v3 = .int .i64 (((l0.take kk).map List.length).sum : Nat) ∧ v11 = .int .i64 kk ∧ Aside0 (Below w.heap.size w wr))
  case atStart => exact ⟨0, Nat.zero_le _, by omega, by simp, rfl, ⟨kW _ _⟩⟩
  case round =>
   obtain ⟨kk, hkk, hg, rfl, rfl, HB⟩ := hrel
   by_cases hlt : kk < l0.length
   ·have hltz : (kk : Int) < (l0.length : Int) := by omega
    obtain ⟨ad, A1, c1, e0, hcell, hc1, hC1⟩ := at_row HR0.out kk hlt
    cases e0
    have S1 := zA (take_sum_step l0 kk hlt)
    have S2 := zA (take_sum_le l0 (kk + 1))
    replace hcell := pw_cell_below HB.out hcell
    clear hc1 hC1
    generalize hy : l0.getD kk [] = y at hcell S1
    generalize ((l0.take kk).map List.length).sum = s at S1 ⊢
    clear hy
    have hn : ¬ (wrap64 ((s : Int) + (y.length : Int)) < 0) := by
     have h1 := S1.out
     have h2 := S2.out
     have h3 := HT.out
     rw [pw_wrap64_id (by omega) (by omega)]; omega
    go_wp2
    go_roundg (l0.length - (kk + 1))
    case measure => omega
    case rel =>
     refine ⟨kk + 1, by omega, by omega, ?_, by go_num, ?_⟩
     ·rw [S1.out]
      have h1 := S1.out
      have h2 := S2.out
      have h3 := HT.out
      rw [pw_wrap64_id (by omega) (by omega)]; simp
     exact HB
   have hltz : ¬ (kk : Int) < (l0.length : Int) := by omega
   have : kk = l0.length := by omega
   subst this
   rw [List.take_length]
   have hF : ∀ kk, kk ≤ l0.length → ((l0.take kk).flatten).length ≤ (l0.map List.length).sum := fun kk _ => by
    rw [List.length_flatten]; exact take_sum_le l0 kk
   replace hF := zA hF
   generalize (l0.map List.length).sum = s at HT hF ⊢
   have hcall := grow_nil (s : Int) (by omega) (by have := HT.out; omega) wr
   replace hcall := zA hcall
   go_wp2_with fail
   refine hcall.out.mono ?_
   rintro e w1 ⟨v1, rfl, ho, hb⟩
   have HO := zA (kI ho HB.out.size)
   have HB1 := zA (kQ HB.out hb)
   clear hcall ho hb
   go_wp2
   go_loopg [6, 8, 27] l0.length (fun gg v6 _ v27 wr => ∃ kk : Nat, kk ≤ l0.length ∧ l0.length - kk ≤ gg ∧ v27 = .int .i64 kk ∧ Aside0 (Kd.R (Kd.int .i64) 2 wr w.heap.size (fun _ => True) v6 (l0.take kk).flatten) ∧ Aside0 (Below w.heap.size w wr))
   case atStart => exact ⟨0, Nat.zero_le _, by omega, rfl, ⟨by simpa using HO.out⟩, HB1⟩
   case round =>
    clear HO HB1 HB
    obtain ⟨kk, hkk, hg, rfl, HO, HB⟩ := hrel
    by_cases hlt : kk < l0.length
    ·have hltz : (kk : Int) < (l0.length : Int) := by omega
     obtain ⟨ad, A1, c1, e0, hcell, hc1, hC1⟩ := at_row HR0.out kk hlt
     cases e0
     have S1 := zA (take_flatten_step l0 kk hlt)
     have S2 := zA (hF.out (kk + 1) (by omega))
     replace hcell := pw_cell_below HB.out hcell
     replace hC1 := zA (kO hC1 HB.out)
     clear hc1
     generalize hy : l0.getD kk [] = y at hcell S1 hC1
     clear hy
     generalize hz : (l0.take kk).flatten = z at HO S1
     clear hz
     have hlen : z.length + y.length ≤ s := by
      have h2 := S2.out
      rw [S1.out, List.length_append] at h2
      exact h2
     have HLN := zA hlen
     clear hlen
     go_wp2_with (first | ((with_reducible refine gate_builtin (b := .append) (xs := #[.tmp 31, .tmp 32]) rfl ?_); at_builtin; refine Kd.R_append_rows (Kd.int .i64) (w0 := w) w.heap.size rfl (.tmp 31) (.tmp 32) 22 2 (.int .i64 0) 8 rfl Tryd.underlying22 info2 rfl (by decide) (by omega) u6 z y _ _ _ (fun _ => True) (fun _ => False) rfl rfl ?aO ?aR (fun _ _ h => h) (fun _ h => h.elim) (fun _ _ => trivial) ?aB ?aS (by have := HLN.out; have := HT.out; omega) ?_; (case aR => exact zS hC1.out); (case aO => (with_reducible repeat (first | apply zF | apply zG | apply zH)); exact HO.out); (case aB => exact zQ HB.out); (case aS => exact kP (zQ HB.out)); intro v6 w6 ho hb hg_ hat; have HO' := zA ho; have HB' := zA hb; clear ho hb hg_ hat))
     go_roundg (l0.length - (kk + 1))
     case measure => omega
     case rel => exact ⟨kk + 1, by omega, by omega, by go_num, ⟨by rw [S1.out]; exact HO'.out⟩, HB'⟩
    have hltz : ¬ (kk : Int) < (l0.length : Int) := by omega
    have : kk = l0.length := by omega
    subst this
    go_wp2
    go_ret
    refine ⟨_, rfl, ?_, HB.out⟩
    have := HO.out
    rw [List.take_length] at this
    exact this
 rw [if_neg hT] at h
 cases h

/-! ### slices_Index_int64_int64: function 191 -/
def slices_Index_int64_int64.l0 : Nat → List Int → Int → Int → Int → Option (Int)
 | 0, _, _, _, _ => none
 | k + 1, x0, x1, x7, x8 => if x8 < x7 then (if 0 ≤ x8 then (if x8 < (x0.length : Int) then (if x1 = (rd x0 x8) then (some x8) else (slices_Index_int64_int64.l0 k x0 x1 x7 (wrap64 (x8 + 1)))) else (none)) else (none)) else (some (-1))
def slices_Index_int64_int64.f (k : Nat) (l0 : List Int) (a1 : Int) : Option (Int) := slices_Index_int64_int64.l0 k l0 a1 (l0.length : Int) 0

set_option maxHeartbeats 8000000 in
set_option maxRecDepth 100000 in
theorem slices_Index_int64_int64.calls (k : Nat) (A0 : Option Addr) (c0 : Nat) (l0 : List Int) (a1 : Int) (r : Int) (w : World) (hr0 : Kd.C (Kd.int .i64) w A0 l0.length l0) (hc0 : l0.length ≤ c0) (h : slices_Index_int64_int64.f k l0 a1 = some r) :
  Calls Tryd.prog 191 #[.slice A0 l0.length c0, .int .i64 a1] w fun e w' => e = .returned (.int .i64 r) ∧ Drawn0 w w' := by
 have HR0 := zA hr0
 have HC0 := zA hc0
 clear hr0 hc0
 have H := h
 unfold slices_Index_int64_int64.f at H
 clear h
 have H' := zA H
 clear H
 go_enter Tryd.func191, Tryd.ntmps191
 go_wp2
 go_loopg [8] k (fun kq v8 w' => ∃ (x8_1 : Int), v8 = .int .i64 x8_1 ∧ Aside0 (slices_Index_int64_int64.l0 kq l0 a1 (l0.length : Int) x8_1 = some r) ∧ Aside0 (kq ≤ k) ∧ Drawn0 w w')
 case atStart => exact ⟨(0), zs, H', ⟨Nat.le_refl _⟩, by repeat (first | exact Drawn0.refl _ | apply Drawn0.step)⟩
 case round =>
  clear H'
  try clear c1
  obtain ⟨x8_1, rfl, HA, HK1, ⟨m1, rfl⟩⟩ := hrel
  cases gk with
  | zero => exact absurd HA.out (by simp [slices_Index_int64_int64.l0])
  | succ k1 =>
   have H := HA.out
   clear HA
   simp only [slices_Index_int64_int64.l0] at H
   by_cases c3 : x8_1 < (l0.length : Int)
   ·rw [if_pos c3] at H
    have c3b0 : decide (x8_1 < (l0.length : Int)) = true := decide_eq_true c3
    clear c3
    by_cases c4 : 0 ≤ x8_1
    ·rw [if_pos c4] at H
     have c4b0 : decide (0 ≤ x8_1) = true := decide_eq_true c4
     clear c4
     by_cases c5 : x8_1 < (l0.length : Int)
     ·rw [if_pos c5] at H
      have c5b0 : decide (x8_1 < (l0.length : Int)) = true := decide_eq_true c5
      clear c5
      by_cases c6 : a1 = (rd l0 x8_1)
      ·rw [if_pos c6] at H
       obtain ⟨c6b0, c6b1⟩ := zT1 c6
       clear c6
       obtain rfl := Option.some.inj H
       have p308 : 0 ≤ (x8_1 : Int) := zd
       have q308 : x8_1 < (l0.length : Int) := zd
       obtain ⟨ad308, e308, hx308_0⟩ := Kd.at_int HR0.out x8_1 p308 q308
       cases e308
       replace p308 := eq_true p308
       replace q308 := eq_true q308
       go_wp2
       go_ret
       exact ⟨zs, by repeat (first | exact Drawn0.refl _ | apply Drawn0.step)⟩
      rw [if_neg c6] at H
      obtain ⟨c6b0, c6b1⟩ := zT2 c6
      have H' := zA H
      clear H
      have p308 : 0 ≤ (x8_1 : Int) := zd
      have q308 : x8_1 < (l0.length : Int) := zd
      obtain ⟨ad308, e308, hx308_0⟩ := Kd.at_int HR0.out x8_1 p308 q308
      cases e308
      replace p308 := eq_true p308
      replace q308 := eq_true q308
      go_wp2
      go_roundg k1
      case measure => have := HK1.out; omega
      case rel => exact ⟨(wrap64 (x8_1 + 1)), zs, H', ⟨by have := HK1.out; omega⟩, by repeat (first | exact Drawn0.refl _ | apply Drawn0.step)⟩
     rw [if_neg c5] at H
     exact absurd H (by simp)
    rw [if_neg c4] at H
    exact absurd H (by simp)
   rw [if_neg c3] at H
   have c3b0 : decide (x8_1 < (l0.length : Int)) = false := decide_eq_false c3
   clear c3
   obtain rfl := Option.some.inj H
   go_wp2
   go_ret
   exact ⟨zs, by repeat (first | exact Drawn0.refl _ | apply Drawn0.step)⟩

/-! ### impl_withoutFirst: function 158 -/
def slices_Index_int64_int64_BwithoutFirst.f (k : Nat) (l0 : List Int) (a1 : Int) : Option (Int) := slices_Index_int64_int64.f k l0 a1
theorem slices_Index_int64_int64_BwithoutFirst.calls (k : Nat) (A0 : Option Addr) (c0 : Nat) (l0 : List Int) (a1 : Int) (r : Int) (w : World) (hr0 : Kd.C (Kd.int .i64) w A0 l0.length l0) (hc0 : l0.length ≤ c0) (h : slices_Index_int64_int64_BwithoutFirst.f k l0 a1 = some r) :
 Calls Tryd.prog 191 #[.slice A0 l0.length c0, .int .i64 a1] w fun e w' => e = .returned (.int .i64 r) ∧ Below w.heap.size w w' := by
 refine (slices_Index_int64_int64.calls k A0 c0 l0 a1 r w hr0 hc0 h).mono ?_
 rintro e w' ⟨h1, h2⟩
 exact ⟨h1, Drawn0.below h2⟩
def impl_withoutFirst.f (k : Nat) (l0 : List Int) (a1 : Int) : Option (List Int) := (slices_Index_int64_int64_BwithoutFirst.f k l0 a1).bind fun t309 => (if 0 ≤ t309 then (if t309 ≤ (l0.length : Int) then (if 0 ≤ (wrap64 (t309 + 1)) then (if (wrap64 (t309 + 1)) ≤ (l0.length : Int) then ((slices_Concat_int64_int64.f (([(l0.take (t309 : Int).toNat), (l0.drop ((wrap64 (t309 + 1)) : Int).toNat)] : List (List Int)))).bind fun t323 => (some t323)) else (none)) else (none)) else (none)) else (none))

def impl_withoutFirst.T2 : Bool × List (List Nat × List Nat) := (true, [([], []), ([], []), ([0, 1], [0, 1]), ([], []), ([], []), ([4], [4]), ([3, 5], [3, 5]), ([2, 6], [2, 6]), ([7], [7]), ([8, 8, 0, 1, 2, 3, 4, 5, 6, 7, 8], [8])])
def impl_withoutFirst.B2 : List Nat := [0, 0, 3, 0, 0, 16, 56, 127, 255, 511]
theorem impl_withoutFirst.tab2 : rtab .any (opsOf Tryd.f158 2) = impl_withoutFirst.T2 := by kernel_rfl
theorem impl_withoutFirst.bits2 : waitsOk impl_withoutFirst.T2.2 impl_withoutFirst.B2 = true := by kernel_rfl
set_option maxHeartbeats 8000000 in
set_option maxRecDepth 100000 in
theorem impl_withoutFirst.calls (k : Nat) (P0_ : Nat → Prop) (A0 : Option Addr) (c0 : Nat) (l0 : List Int) (a1 : Int) (r : List Int) (w : World) (hs0 : Kd.V (Kd.int .i64) 2 w w.heap.size (fun k_ => P0_ k_) (.slice A0 l0.length c0) l0) (h : impl_withoutFirst.f k l0 a1 = some r) :
  Calls Tryd.prog 158 #[.slice A0 l0.length c0, .int .i64 a1] w fun e w' => ∃ v0_ : Value, e = .returned (v0_) ∧ Kd.R (Kd.int .i64) 2 w' w.heap.size (fun k_ => (w.heap.size ≤ k_)) v0_ r ∧ Below w.heap.size w w' := by
 have HO0 := zA (show Kd.V (Kd.int .i64) 2 w w.heap.size (fun k_ => (P0_ k_ ∨ w.heap.size ≤ k_)) (.slice A0 l0.length c0) l0 from kN hs0 (fun k_ hk => .inl hk))
 have HB := zA (kW w.heap.size w)
 have H := h
 unfold impl_withoutFirst.f at H
 clear h
 obtain ⟨t309, A3, H⟩ := zb H
 try dsimp only at H
 by_cases c4 : 0 ≤ t309
 ·rw [if_pos c4] at H
  have c4b0 := eq_true c4
  have c4b1 : decide (0 ≤ t309) = true := decide_eq_true c4
  clear c4
  by_cases c5 : t309 ≤ (l0.length : Int)
  ·rw [if_pos c5] at H
   have c5b0 := eq_true c5
   have c5b1 : decide (t309 ≤ (l0.length : Int)) = true := decide_eq_true c5
   clear c5
   obtain ⟨y310, hy310⟩ : ∃ y_ : List Int, y_ = (l0.take (t309 : Int).toNat) := ⟨_, rfl⟩
   replace H : (if 0 ≤ (wrap64 (t309 + 1)) then (if (wrap64 (t309 + 1)) ≤ (l0.length : Int) then ((slices_Concat_int64_int64.f (([y310, (l0.drop ((wrap64 (t309 + 1)) : Int).toNat)] : List (List Int)))).bind fun t323 => (some t323)) else (none)) else (none)) = some r := zy hy310 H
   have Ny310 := zA hy310
   clear hy310
   obtain ⟨ji6, hji6⟩ : ∃ j_ : Int, (wrap64 (t309 + 1)) = j_ := ⟨_, rfl⟩
   replace H : (if 0 ≤ (ji6) then (if (ji6) ≤ (l0.length : Int) then ((slices_Concat_int64_int64.f (([y310, (l0.drop ((ji6) : Int).toNat)] : List (List Int)))).bind fun t323 => (some t323)) else (none)) else (none)) = some r := by first | (rw [hji6] at H; exact H) | (simp only [hji6] at H ⊢; exact H)
   (try rw [hji6] at A3)
   have hji6w : (IntKind.i64.wrap (t309 + 1)) = ji6 := (i64_w _).trans hji6
   by_cases c7 : 0 ≤ (ji6)
   ·rw [if_pos c7] at H
    have c7b0 := eq_true c7
    have c7b1 : decide (0 ≤ (ji6)) = true := decide_eq_true c7
    clear c7
    by_cases c8 : (ji6) ≤ (l0.length : Int)
    ·rw [if_pos c8] at H
     have c8b0 := eq_true c8
     have c8b1 : decide ((ji6) ≤ (l0.length : Int)) = true := decide_eq_true c8
     clear c8
     obtain ⟨y315, hy315⟩ : ∃ y_ : List Int, y_ = (l0.drop ((ji6) : Int).toNat) := ⟨_, rfl⟩
     replace H : ((slices_Concat_int64_int64.f (([y310, y315] : List (List Int)))).bind fun t323 => (some t323)) = some r := zy hy315 H
     have Ny315 := zA hy315
     clear hy315
     obtain ⟨y320, hy320⟩ : ∃ y_ : List (List Int), y_ = (([y310, y315] : List (List Int))) := ⟨_, rfl⟩
     replace H : ((slices_Concat_int64_int64.f y320).bind fun t323 => (some t323)) = some r := zy hy320 H
     have Ny320 := zA hy320
     clear hy320
     obtain ⟨t323, A9, H⟩ := zb H
     try dsimp only at H
     obtain rfl := Option.some.inj H
     go_enter Tryd.func158, Tryd.ntmps158
     try go_wp2_with (first | (refine zO (some 8) Tryd.func191 #[.slice A0 l0.length c0, .int .i64 a1] ?_; (with_reducible refine (slices_Index_int64_int64_BwithoutFirst.calls k _ _ l0 a1 t309 _ ?side1 ?side2 A3.out).mono ?_); (case side1 => exact zS (kJ HO0.out).2.2); (case side2 => exact (kJ HO0.out).2.1); rintro e w10 ⟨rfl, hb⟩; refine ⟨_, rfl, ?_⟩; replace HO0 := zA (kG (zPV HO0.out) hb); replace HB := zA (kQ (zQ HB.out) hb); (try clear hb)))
     replace HO0 := zA (Kd.V_drew HO0.out)
     replace HB := zA (zD HB.out)
     have q12 : (t309 : Int) ≤ ((l0.length : Int) : Int) := zd
     obtain ⟨i012, hi012, _, hsz12, _⟩ := info_parts info2
     have hroom12 : l0.length ≤ c0 := (kJ HO0.out).2.1
     have hC12 : Kd.F (Kd.int .i64) _ _ A0 l0.length l0 := (Kd.V_at (base := w.heap.size) HO0.out).2.2
     have hcut12 := cut_to (P := Tryd.prog) 22 2 .i64 Tryd.underlying22 hi012 A0 l0.length c0 t309 (zd) q12 hroom12
     have hr12 := Kd.F_take (m := (t309 : Int).toNat) hC12 (by omega)
     have hy12 : y310.length = (t309 : Int).toNat := (by rw [Ny310.out, List.length_take]; omega)
     rw [← Ny310.out] at hr12
     rw [← hy12] at hcut12
     have HO314 := zA (show Kd.V (Kd.int .i64) 2 _ w.heap.size _ (.slice A0 y310.length c0) y310 from Kd.V_mk (by omega) hr12)
     have HC314 := zA (show y310.length ≤ c0 from by omega)
     clear hr12 hC12 hroom12 hi012 hsz12
     have KY12 := zA hy12
     clear hy12
     replace q12 := eq_true q12
     have q13 : ((ji6) : Int) ≤ ((l0.length : Int) : Int) := zd
     obtain ⟨i013, hi013, _, hsz13, _⟩ := info_parts info2
     have hroom13 : l0.length ≤ c0 := (kJ HO0.out).2.1
     have hC13 : Kd.F (Kd.int .i64) _ _ A0 l0.length l0 := (Kd.V_at (base := w.heap.size) HO0.out).2.2
     have q013 : (0 : Int) ≤ ((ji6) : Int) := zd
     have hcut13 := cut_from (P := Tryd.prog) 22 2 .i64 Tryd.underlying22 hi013 1 hsz13 A0 l0.length c0 (ji6) q013 q13
     have hr13 := Kd.F_cut (m := ((ji6) : Int).toNat) (c := c0) hC13 (by omega) hroom13
     obtain ⟨A13, hA13⟩ : ∃ A1, A1 = (if c0 = ((ji6) : Int).toNat then A0 else (A0 : Option Addr).map (·.add (((ji6) : Int).toNat * 1))) := ⟨_, rfl⟩
     obtain ⟨c13, hc13⟩ : ∃ c1, c1 = c0 - ((ji6) : Int).toNat := ⟨_, rfl⟩
     have hy13 : y315.length = l0.length - ((ji6) : Int).toNat := (by rw [Ny315.out, List.length_drop] <;> omega)
     rw [show (l0).drop ((ji6) : Int).toNat = y315 from Ny315.out.symm] at hr13
     replace hr13 : Kd.F (Kd.int .i64) _ _ A13 y315.length y315 := (by rw [hA13]; exact hr13)
     rw [← hy13, ← hA13, ← hc13] at hcut13
     have HO319 := zA (show Kd.V (Kd.int .i64) 2 _ w.heap.size _ (.slice A13 y315.length c13) y315 from Kd.V_mk (by rw [hy13, hc13]; exact Nat.sub_le_sub_right hroom13 _) hr13)
     have HC319 := zA (show y315.length ≤ c13 from by rw [hy13, hc13]; exact Nat.sub_le_sub_right hroom13 _)
     clear hr13 hC13 hroom13 hi013 hsz13 hc13
     have KY13 := zA hy13
     have KA13 := zA hA13
     clear hy13 hA13
     replace q13 := eq_true q13
     refine start_ (n := 10) (S := fun w' => True) (ds := []) #[false, false, false, false, false, false, false, false, false, false] (by kernel_rfl) rfl rfl trivial (fun hHeld => ?_); refine with_tabW impl_withoutFirst.tab2 impl_withoutFirst.bits2 (fun HT_ HW_ => ?_)
     generalize w10.drew = w11 at HO0 HB HO314 HO319 hHeld ⊢
     refine zp 0 (some 9) #[true, false, false, false, false, false, false, false, false, false] HT_.out ?_
     refine zp 1 (some 10) #[true, true, false, false, false, false, false, false, false, false] HT_.out ?_
     refine zp 2 (some 11) #[true, true, true, false, false, false, false, false, false, false] HT_.out ?_
     refine zp 3 (some 12) #[true, true, true, true, false, false, false, false, false, false] HT_.out ?_
     refine zp 4 (some 13) #[true, true, true, true, true, false, false, false, false, false] HT_.out ?_
     refine zp 5 (some 14) #[true, true, true, true, true, true, false, false, false, false] HT_.out ?_
     refine zp 6 (some 15) #[true, true, true, true, true, true, true, false, false, false] HT_.out ?_
     refine one_ (i := 7) (N := some 16) #[true, true, true, true, true, true, true, true, false, false] rfl rfl (one_of HT_.out (by kernel_rfl)) (by decide) (fun K hK => ?_)
     refine Kd.N_lit_step (Kd.slice 2 (Kd.int .i64)) _ 22 ?hg (N' := 16) ?hd (xs := ([y310, y315] : List (List Int))) (inner := [.slice A0 y310.length c0, .slice A13 y315.length c13]) (ok := (fun k_ => (P0_ k_ ∨ w.heap.size ≤ k_))) (okp := (fun k_ => (P0_ k_ ∨ w.heap.size ≤ k_))) ?hr ?hp (fun _ hk => hk) ((show ∀ k_ : Nat, (_ : Nat) ≤ k_ → (fun k_ => (P0_ k_ ∨ w.heap.size ≤ k_)) k_ from fun k_ hk => (.inr (Nat.le_trans (kP (zQ HB.out)) hk))) _ (Nat.le_refl _)) (kW _ _) (Nat.le_refl _) (by simp) ?_; (case hd => rfl); (case hg => rfl); (case hr => first | (go_simp; done) | (go_simp; rfl)); (case hp => exact (Reps.one (show Kd.FK (Kd.slice 2 (Kd.int .i64)) _ _ y310 [.slice A0 y310.length c0] from (zFK (kN (ok' := (fun k_ => (P0_ k_ ∨ w.heap.size ≤ k_))) (HO314.out) (fun k_ hk => hk)))) (Reps.one (show Kd.FK (Kd.slice 2 (Kd.int .i64)) _ _ y315 [.slice A13 y315.length c13] from (zFK (kN (ok' := (fun k_ => (P0_ k_ ∨ w.heap.size ≤ k_))) (HO319.out) (fun k_ hk => hk)))) (Reps.none _ _))))
     intro v321 w14 ho15 hb hg_ hnew_
     clear hg_ hnew_
     (first | rw [← Ny320.out] at ho15 | (simp only [Int.reduceToNat] at ho15; rw [← Ny320.out] at ho15))
     replace HO0 := zA (kK (zPV HO0.out) (Kd.N_base ho15) hb)
     replace HO314 := zA (kK (zPV HO314.out) (Kd.N_base ho15) hb)
     replace HO319 := zA (kK (zPV HO319.out) (Kd.N_base ho15) hb)
     have HO322 := zA (jN ho15 (kP (zQ HB.out)))
     replace HB := zA (kQ (zQ HB.out) hb)
     clear hb ho15
     obtain ⟨Ao16, co16, eo16⟩ := Kd.N_slice HO322.out
     (first | subst eo16 | (injection eo16 with f1_ f2_ f3_; have f4_ := f1_.symm; have f5_ := f3_.symm; clear f1_ f2_ f3_; subst f4_; subst f5_))
     refine hK.out _ _ trivial (fun hHeld => ?_)
     clear hK K
     refine norm_ (a' := ?_) ?_ ?_
     rotate_left
     ·show Act.put _ (some 16) _ = _
      simp only [Act.put, zL, zM, zN, i64_w, i32_w]
      rfl
     refine one_ (i := 8) (N := some 17) #[true, true, true, true, true, true, true, true, true, false] rfl rfl (one_of HT_.out (by kernel_rfl)) (by decide) (fun K hK => ?_)
     refine goes_ Tryd.func85 (by kernel_rfl) rfl #[.slice Ao16 y320.length co16] (by rfl) rfl rfl zg ?_
     with_reducible refine (slices_Concat_int64_int64.calls _ _ y320 t323 _ ?side1 ?side2 A9.out).mono ?_
     (case side1 => exact zS (Kd.N_reads' HO322.out).2.2)
     (case side2 => exact (Kd.N_reads' HO322.out).2.1)
     rintro e w17 ⟨v324, rfl, ho0, hb⟩
     refine ⟨_, rfl, ?_⟩
     replace HO0 := zA (kK (zPV HO0.out) (kC ho0) hb)
     replace HO314 := zA (kK (zPV HO314.out) (kC ho0) hb)
     replace HO319 := zA (kK (zPV HO319.out) (kC ho0) hb)
     replace HO322 := zA (Kd.N_elder' (zPN HO322.out) (kC ho0) hb)
     have HO325 := zA (kI (Kd.R_newM (M := fun k_ => (w.heap.size ≤ k_)) ho0 (kP (zQ HB.out)) (fun k_ h_ => h_)) (kP (zQ HB.out)))
     replace HB := zA (kQ (zQ HB.out) hb)
     (try clear hb)
     (try clear hb2)
     (try clear hk)
     (try clear hi)
     (try clear hgw)
     (try clear ho0)
     refine hK.out _ _ trivial (fun hHeld => ?_)
     clear hK K
     refine norm_ (a' := ?_) ?_ ?_
     rotate_left
     ·show Act.put _ (some 17) _ = _
      simp only [Act.put, zL, zM, zN, i64_w, i32_w]
      rfl
     refine zp 9 (some 4) #[true, true, true, true, true, true, true, true, true, true] HT_.out ?_
     refine done_ (done_of HT_.out (by kernel_rfl)) ?_
     try go_wp2
     go_ret
     exact ⟨_, by first | rfl | (simp [errW_none, errW_some] <;> rfl) | (simp only [← hji6]; first | rfl | (simp [errW_none, errW_some] <;> rfl)) | (simp [*, errW_none, errW_some] <;> rfl), by (with_reducible repeat (first | apply zF | apply zG | apply zH)); exact kA HO325.out (fun _ hk => hk.1), zQ HB.out⟩
    rw [if_neg c8] at H
    exact absurd H (by simp)
   rw [if_neg c7] at H
   exact absurd H (by simp)
  rw [if_neg c5] at H
  exact absurd H (by simp)
 rw [if_neg c4] at H
 exact absurd H (by simp)

/-! ### impl_ties_normal: function 88 -/
def impl_ties_normal.l0 : Nat → List Int → List Int → List Int → Option (List Int)
 | 0, _, _, _ => none
 | k + 1, x0, x5, x6 => if (x6.length : Int) > 0 then ((impl_ties_firsts.f k x0 x6).bind fun t329 => ((impl_least.f t329).bind fun t330 => (if x5.length < 17592186044416 then ((impl_withoutFirst.f k x6 t330).bind fun t334 => (impl_ties_normal.l0 k x0 (x5 ++ [t330]) t334)) else (none)))) else (some x5)
def impl_ties_normal.f (k : Nat) (l0 : List Int) (l1 : List Int) : Option (List Int) := if 0 ≤ (l1.length : Int) then (if ((l1.length : Int) : Int).toNat ≤ 35184372088832 then (impl_ties_normal.l0 k l0 (([] : List Int)) l1) else (none)) else (none)

set_option maxHeartbeats 8000000 in
set_option maxRecDepth 100000 in
theorem impl_ties_normal.calls (k : Nat) (A0 : Option Addr) (c0 : Nat) (l0 : List Int) (P1_ : Nat → Prop) (A1 : Option Addr) (c1 : Nat) (l1 : List Int) (r : List Int) (w : World) (hr0 : Kd.C (Kd.int .i64) w A0 l0.length l0) (hc0 : l0.length ≤ c0) (hs1 : Kd.V (Kd.int .i64) 2 w w.heap.size (fun k_ => P1_ k_) (.slice A1 l1.length c1) l1) (hT : TabW w) (h : impl_ties_normal.f k l0 l1 = some r) :
  Calls Tryd.prog 88 #[.slice A0 l0.length c0, .slice A1 l1.length c1] w fun e w' => ∃ v0_ : Value, e = .returned (v0_) ∧ Kd.R (Kd.int .i64) 2 w' w.heap.size (fun k_ => (w.heap.size ≤ k_)) v0_ r ∧ Below w.heap.size w w' := by
 have HT := zA hT
 clear hT
 have HR0 := zA hr0
 have HC0 := zA hc0
 clear hr0 hc0
 have HO1 := zA (show Kd.V (Kd.int .i64) 2 w w.heap.size (fun k_ => (P1_ k_ ∨ w.heap.size ≤ k_)) (.slice A1 l1.length c1) l1 from kN hs1 (fun k_ hk => .inl hk))
 have HB := zA (kW w.heap.size w)
 have H := h
 unfold impl_ties_normal.f at H
 clear h
 by_cases c3 : 0 ≤ (l1.length : Int)
 ·rw [if_pos c3] at H
  have c3b0 := eq_true c3
  have c3b1 : decide (0 ≤ (l1.length : Int)) = true := decide_eq_true c3
  clear c3
  by_cases c4 : ((l1.length : Int) : Int).toNat ≤ 35184372088832
  ·rw [if_pos c4] at H
   have c4b0 := eq_true c4
   have c4b1 : decide (((l1.length : Int) : Int).toNat ≤ 35184372088832) = true := decide_eq_true c4
   clear c4
   obtain ⟨y326, hy326⟩ : ∃ y_ : List Int, y_ = (([] : List Int)) := ⟨_, rfl⟩
   replace H : (impl_ties_normal.l0 k l0 y326 l1) = some r := zy hy326 H
   have Ny326 := zA hy326
   clear hy326
   have H' := zA H
   clear H
   go_enter Tryd.func88, Tryd.ntmps88
   go_wp2_with (first | ((with_reducible refine kS (N := 10) rfl ?_); refine Kd.R_make0 (Kd.int .i64) _ 2 rfl (N := 10) rfl 22 _ _ rfl (l1.length : Int) rfl rfl Tryd.underlying22 (.int .i64 0) 8 info2 rfl (by decide) (by omega) 0 (ok := fun _ => True) (okp := fun _ => True) rfl (fun _ hk => hk) trivial (zd) (Nat.le_trans (Nat.mul_le_mul_right _ (zd : (l1.length : Int).toNat ≤ 35184372088832)) (by omega)) (kW _ _) (Nat.le_refl _) ?_; intro v327 w5 ho6 hb hg_ hnew_; clear hg_ hnew_; (first | rw [← Ny326.out] at ho6 | (simp only [Int.reduceToNat] at ho6; rw [← Ny326.out] at ho6)); replace HO1 := zA (kK (zPV HO1.out) (kC ho6) hb); have HO328 := zA (kI (Kd.R_newM (M := fun k_ => (w.heap.size ≤ k_)) ho6 (kP (zQ HB.out)) (fun k_ h_ => h_)) (kP (zQ HB.out))); replace HB := zA (kQ (zQ HB.out) hb); clear hb ho6))
   go_loopg [5, 6] k (fun kq v5 v6 w' => ∃ (x5_1 : List Int) (x6_1 : List Int), Aside0 (impl_ties_normal.l0 kq l0 x5_1 x6_1 = some r) ∧ Aside0 (kq ≤ k) ∧ Aside0 (Kd.R (Kd.int .i64) 2 w' w.heap.size (fun k_ => (w.heap.size ≤ k_)) v5 x5_1) ∧ Aside0 (Kd.V (Kd.int .i64) 2 w' w.heap.size (fun k_ => (P1_ k_ ∨ w.heap.size ≤ k_) ∧ some k_ ≠ (v5 : Value).ownBlock) v6 x6_1) ∧ Aside0 (Below w.heap.size w w'))
   case atStart => exact ⟨(y326), (l1), H', ⟨Nat.le_refl _⟩, ⟨zPM HO328.out (fun _ hk => hk.1)⟩, ⟨zPV HO1.out⟩, ⟨zQ HB.out⟩⟩
   case round =>
    clear H'
    try clear c1
    try clear c3
    try clear c4
    obtain ⟨x5_1, x6_1, HA, HK1, HO_5, HO_6, HB⟩ := hrel
    cases gk with
    | zero => exact absurd HA.out (by simp [impl_ties_normal.l0])
    | succ k1 =>
     have H := HA.out
     clear HA
     simp only [impl_ties_normal.l0] at H
     by_cases c7 : (x6_1.length : Int) > 0
     ·rw [if_pos c7] at H
      have c7b0 : decide (0 < (x6_1.length : Int)) = true := decide_eq_true c7
      have c7b1 : decide (0 < x6_1.length) = true := decide_eq_true (by omega)
      clear c7
      obtain ⟨t329, A8, H⟩ := zb H
      try dsimp only at H
      obtain ⟨t330, A9, H⟩ := zb H
      try dsimp only at H
      by_cases c10 : x5_1.length < 17592186044416
      ·rw [if_pos c10] at H
       have LMc10 := zA c10
       clear c10
       obtain ⟨y331, hy331⟩ : ∃ y_ : List Int, y_ = (x5_1 ++ [t330]) := ⟨_, rfl⟩
       replace H : ((impl_withoutFirst.f k1 x6_1 t330).bind fun t334 => (impl_ties_normal.l0 k1 l0 y331 t334)) = some r := zy hy331 H
       have Ny331 := zA hy331
       clear hy331
       obtain ⟨t334, A11, H⟩ := zb H
       try dsimp only at H
       have H' := zA H
       clear H
       obtain ⟨Ao12, co12, eo12⟩ := Kd.V_slice HO_6.out
       subst eo12
       go_wp2_with (first | (refine zO (some 17) Tryd.func157 #[.slice A0 l0.length c0, .slice Ao12 x6_1.length co12] ?_; (with_reducible refine (impl_ties_firsts.calls k1 _ _ l0 _ _ x6_1 t329 _ ?side1 ?side2 ?side3 ?side4 A8.out).mono ?_); (case side1 => exact zS (kO HR0.out HB.out)); (case side2 => exact HC0.out); (case side3 => exact zS (kJ HO_6.out).2.2); (case side4 => exact (kJ HO_6.out).2.1); rintro e w' ⟨rfl, ⟨nd, rfl⟩⟩; refine ⟨_, rfl, ?_⟩) | (refine zO (some 18) Tryd.func137 #[.int .i64 t329] ?_; (with_reducible refine (impl_least.calls t329 t330 _ ?side1 A9.out).mono ?_); (case side1 => exact TabW.below HT.out (zQ HB.out)); rintro e w' ⟨rfl, ⟨nd, rfl⟩⟩; refine ⟨_, rfl, ?_⟩) | ((with_reducible refine gate_builtin (b := .append) (xs := #[.tmp 19, .tmp 21]) rfl ?_); at_builtin; refine Kd.R_append (Kd.int .i64) (w0 := w) w.heap.size rfl (.tmp 19) (.tmp 21) 22 2 (.int .i64 0) 8 rfl Tryd.underlying22 info2 rfl (by decide) (by omega) u5 x5_1 t330 [.int .i64 t330] (fun k_ => (w.heap.size ≤ k_)) (fun _ => False) rfl rfl ?aP (fun _ hk => hk.elim) ?aF ?aO ?aB ?aS ?aL ?_; (case aP => exact rfl); (case aB => exact (zQ HB.out)); (case aF => exact (fun k_ hk => (Nat.le_trans (kP (zQ HB.out)) hk))); (case aO => exact (zP HO_5.out)); (case aS => exact (kP (zQ HB.out))); (case aL => have := LMc10.out; omega); intro v332 w13 ho hb hg hat; rw [← Ny331.out] at ho; replace HO_6 := zA (Kd.V_afterv (ok := (fun k_ => (P1_ k_ ∨ w.heap.size ≤ k_))) (zPV HO_6.out) hg hat); replace HB := zA (hb); have HO333 := zA (ho); clear HO_5; clear ho hb hg hat) | (refine zO (some 25) Tryd.func158 #[.slice Ao12 x6_1.length co12, .int .i64 t330] ?_; (with_reducible refine (impl_withoutFirst.calls k1 (fun k_ => ((P1_ k_ ∨ w.heap.size ≤ k_) ∧ some k_ ≠ (v332 : Value).ownBlock)) _ _ x6_1 t330 t334 _ ?side1 A11.out).mono ?_); (case side1 => exact HO_6.out); rintro e w14 ⟨v335, rfl, ho0, hb⟩; refine ⟨_, rfl, ?_⟩; replace HO_6 := zA (kK (zPV HO_6.out) (kC ho0) hb); have HO336 := zA (kI (kF (Kd.R_newM (M := fun k_ => (w.heap.size ≤ k_)) (kA (ok' := fun k_ => True) ho0 (fun _ hk_ => trivial)) (kP (zQ HB.out)) (fun k_ h_ => h_)) (kH (zP HO333.out))) (kP (zQ HB.out))); replace HO333 := zA (kE (zP HO333.out) (kC ho0) hb); replace HB := zA (kQ (zQ HB.out) hb); (try clear hb); (try clear ho0)))
       go_roundg k1
       case measure => have := HK1.out; omega
       case rel => exact ⟨(y331), (t334), H', ⟨by have := HK1.out; omega⟩, ⟨zPM HO333.out (fun _ hk => hk.1)⟩, ⟨kN (jL (zP HO336.out)) (fun k_ hk => by first | exact ⟨(.inr (hk.1.1)), hk.2⟩ | exact ⟨(.inr (hk.1)), hk.2⟩ | exact (.inr (hk)))⟩, ⟨zQ HB.out⟩⟩
      rw [if_neg c10] at H
      exact absurd H (by simp)
     rw [if_neg c7] at H
     have c7b0 : decide (0 < (x6_1.length : Int)) = false := decide_eq_false c7
     have c7b1 : decide (0 < x6_1.length) = false := decide_eq_false (by omega)
     clear c7
     obtain rfl := Option.some.inj H
     obtain ⟨Ao15, co15, eo15⟩ := Kd.V_slice HO_6.out
     subst eo15
     go_wp2
     go_ret
     exact ⟨_, zr, zP HO_5.out, zQ HB.out⟩
  rw [if_neg c4] at H
  exact absurd H (by simp)
 rw [if_neg c3] at H
 exact absurd H (by simp)

/-! ### slices_Equal_int64_int64: function 155 -/
def slices_Equal_int64_int64.l0 : Nat → List Int → List Int → Int → Int → Option (Bool)
 | 0, _, _, _, _ => none
 | k + 1, x0, x1, x12, x13 => if x13 < x12 then (if 0 ≤ x13 then (if x13 < (x0.length : Int) then (if x13 < (x1.length : Int) then (if (rd x0 x13) = (rd x1 x13) then (slices_Equal_int64_int64.l0 k x0 x1 x12 (wrap64 (x13 + 1))) else (some false)) else (none)) else (none)) else (none)) else (some true)
def slices_Equal_int64_int64.f (k : Nat) (l0 : List Int) (l1 : List Int) : Option (Bool) := if (l0.length : Int) = (l1.length : Int) then (slices_Equal_int64_int64.l0 k l0 l1 (l0.length : Int) 0) else (some false)

set_option maxHeartbeats 8000000 in
set_option maxRecDepth 100000 in
theorem slices_Equal_int64_int64.calls (k : Nat) (A0 : Option Addr) (c0 : Nat) (l0 : List Int) (A1 : Option Addr) (c1 : Nat) (l1 : List Int) (r : Bool) (w : World) (hr0 : Kd.C (Kd.int .i64) w A0 l0.length l0) (hc0 : l0.length ≤ c0) (hr1 : Kd.C (Kd.int .i64) w A1 l1.length l1) (hc1 : l1.length ≤ c1) (h : slices_Equal_int64_int64.f k l0 l1 = some r) :
  Calls Tryd.prog 155 #[.slice A0 l0.length c0, .slice A1 l1.length c1] w fun e w' => e = .returned (.bool r) ∧ Drawn0 w w' := by
 have HR0 := zA hr0
 have HC0 := zA hc0
 clear hr0 hc0
 have HR1 := zA hr1
 have HC1 := zA hc1
 clear hr1 hc1
 have H := h
 unfold slices_Equal_int64_int64.f at H
 clear h
 by_cases c3 : (l0.length : Int) = (l1.length : Int)
 ·rw [if_pos c3] at H
  obtain ⟨c3b0, c3b1⟩ := zT1 c3
  have c3b2 : (l0.length == l1.length) = true := by first | simpa using c3 | (simp at c3 ⊢; omega)
  clear c3
  have H' := zA H
  clear H
  go_enter Tryd.func155, Tryd.ntmps155
  go_wp2
  repeat (go_quiet (fail); try go_wp2)
  go_loopg [13] k (fun kq v13 w' => ∃ (x13_1 : Int), v13 = .int .i64 x13_1 ∧ Aside0 (slices_Equal_int64_int64.l0 kq l0 l1 (l0.length : Int) x13_1 = some r) ∧ Aside0 (kq ≤ k) ∧ Drawn0 w w')
  case atStart => exact ⟨(0), zs, H', ⟨Nat.le_refl _⟩, by repeat (first | exact Drawn0.refl _ | apply Drawn0.step)⟩
  case round =>
   clear H'
   try clear c1
   try clear c3
   obtain ⟨x13_1, rfl, HA, HK1, ⟨m1, rfl⟩⟩ := hrel
   cases gk with
   | zero => exact absurd HA.out (by simp [slices_Equal_int64_int64.l0])
   | succ k1 =>
    have H := HA.out
    clear HA
    simp only [slices_Equal_int64_int64.l0] at H
    by_cases c4 : x13_1 < (l0.length : Int)
    ·rw [if_pos c4] at H
     have c4b0 : decide (x13_1 < (l0.length : Int)) = true := decide_eq_true c4
     clear c4
     by_cases c5 : 0 ≤ x13_1
     ·rw [if_pos c5] at H
      have c5b0 : decide (0 ≤ x13_1) = true := decide_eq_true c5
      clear c5
      by_cases c6 : x13_1 < (l0.length : Int)
      ·rw [if_pos c6] at H
       have c6b0 : decide (x13_1 < (l0.length : Int)) = true := decide_eq_true c6
       clear c6
       by_cases c7 : x13_1 < (l1.length : Int)
       ·rw [if_pos c7] at H
        have c7b0 : decide (x13_1 < (l1.length : Int)) = true := decide_eq_true c7
        clear c7
        by_cases c8 : (rd l0 x13_1) = (rd l1 x13_1)
        ·rw [if_pos c8] at H
         obtain ⟨c8b0, c8b1⟩ := zT1 c8
         clear c8
         have H' := zA H
         clear H
         have p337 : 0 ≤ (x13_1 : Int) := zd
         have q337 : x13_1 < (l0.length : Int) := zd
         obtain ⟨ad337, e337, hx337_0⟩ := Kd.at_int HR0.out x13_1 p337 q337
         cases e337
         replace p337 := eq_true p337
         replace q337 := eq_true q337
         have p338 : 0 ≤ (x13_1 : Int) := zd
         have q338 : x13_1 < (l1.length : Int) := zd
         obtain ⟨ad338, e338, hx338_0⟩ := Kd.at_int HR1.out x13_1 p338 q338
         cases e338
         replace p338 := eq_true p338
         replace q338 := eq_true q338
         go_wp2
         repeat (go_quiet (fail); try go_wp2)
         go_roundg k1
         case measure => have := HK1.out; omega
         case rel => exact ⟨(wrap64 (x13_1 + 1)), zs, H', ⟨by have := HK1.out; omega⟩, by repeat (first | exact Drawn0.refl _ | apply Drawn0.step)⟩
        rw [if_neg c8] at H
        obtain ⟨c8b0, c8b1⟩ := zT2 c8
        obtain rfl := Option.some.inj H
        have p337 : 0 ≤ (x13_1 : Int) := zd
        have q337 : x13_1 < (l0.length : Int) := zd
        obtain ⟨ad337, e337, hx337_0⟩ := Kd.at_int HR0.out x13_1 p337 q337
        cases e337
        replace p337 := eq_true p337
        replace q337 := eq_true q337
        have p338 : 0 ≤ (x13_1 : Int) := zd
        have q338 : x13_1 < (l1.length : Int) := zd
        obtain ⟨ad338, e338, hx338_0⟩ := Kd.at_int HR1.out x13_1 p338 q338
        cases e338
        replace p338 := eq_true p338
        replace q338 := eq_true q338
        go_wp2
        repeat (go_quiet (fail); try go_wp2)
        go_ret
        exact ⟨zs, by repeat (first | exact Drawn0.refl _ | apply Drawn0.step)⟩
       rw [if_neg c7] at H
       exact absurd H (by simp)
      rw [if_neg c6] at H
      exact absurd H (by simp)
     rw [if_neg c5] at H
     exact absurd H (by simp)
    rw [if_neg c4] at H
    have c4b0 : decide (x13_1 < (l0.length : Int)) = false := decide_eq_false c4
    clear c4
    obtain rfl := Option.some.inj H
    go_wp2
    repeat (go_quiet (fail); try go_wp2)
    go_ret
    exact ⟨zs, by repeat (first | exact Drawn0.refl _ | apply Drawn0.step)⟩
 rw [if_neg c3] at H
 obtain ⟨c3b0, c3b1⟩ := zT2 c3
 have c3b2 : (l0.length == l1.length) = false := by first | simpa using c3 | (simp at c3 ⊢; omega)
 obtain rfl := Option.some.inj H
 go_enter Tryd.func155, Tryd.ntmps155
 go_wp2
 repeat (go_quiet (fail); try go_wp2)
 go_ret
 exact ⟨zs, by repeat (first | exact Drawn0.refl _ | apply Drawn0.step)⟩

/-! ### impl_ties_same: function 84 -/
def impl_ties_same.f (k : Nat) (l0 : List Int) (l1 : List Int) (l2 : List Int) : Option (Bool) := (impl_ties_normal.f k l0 l1).bind fun t339 => ((impl_ties_normal.f k l0 l2).bind fun t342 => ((slices_Equal_int64_int64.f k t339 t342).bind fun t345 => (some t345)))

set_option maxHeartbeats 8000000 in
set_option maxRecDepth 100000 in
theorem impl_ties_same.calls (k : Nat) (A0 : Option Addr) (c0 : Nat) (l0 : List Int) (A1 : Option Addr) (c1 : Nat) (l1 : List Int) (A2 : Option Addr) (c2 : Nat) (l2 : List Int) (r : Bool) (w : World) (hr0 : Kd.C (Kd.int .i64) w A0 l0.length l0) (hc0 : l0.length ≤ c0) (hr1 : Kd.C (Kd.int .i64) w A1 l1.length l1) (hc1 : l1.length ≤ c1) (hr2 : Kd.C (Kd.int .i64) w A2 l2.length l2) (hc2 : l2.length ≤ c2) (hT : TabW w) (h : impl_ties_same.f k l0 l1 l2 = some r) :
  Calls Tryd.prog 84 #[.slice A0 l0.length c0, .slice A1 l1.length c1, .slice A2 l2.length c2] w fun e w' => e = .returned (.bool r) ∧ Below w.heap.size w w' := by
 have HT := zA hT
 clear hT
 have HR0 := zA hr0
 have HC0 := zA hc0
 clear hr0 hc0
 have HR1 := zA hr1
 have HC1 := zA hc1
 clear hr1 hc1
 have HR2 := zA hr2
 have HC2 := zA hc2
 clear hr2 hc2
 have HB := zA (kW w.heap.size w)
 have H := h
 unfold impl_ties_same.f at H
 clear h
 obtain ⟨t339, A4, H⟩ := zb H
 try dsimp only at H
 obtain ⟨t342, A5, H⟩ := zb H
 try dsimp only at H
 obtain ⟨t345, A6, H⟩ := zb H
 try dsimp only at H
 obtain rfl := Option.some.inj H
 go_enter Tryd.func84, Tryd.ntmps84
 go_wp2_with (first | (refine zO (some 9) Tryd.func88 #[.slice A0 l0.length c0, .slice A1 l1.length c1] ?_; (with_reducible refine (impl_ties_normal.calls k _ _ l0 (fun k_ => k_ < w.heap.size) _ _ l1 t339 _ ?side1 ?side2 ?side3 ?side4 A4.out).mono ?_); (case side1 => exact zS HR0.out); (case side2 => exact HC0.out); (case side3 => exact Kd.V_mk HC1.out (Kd.F_below (Kd.C_F (Kd.heap_int .i64) HR1.out) (zQ HB.out))); (case side4 => exact TabW.below HT.out (zQ HB.out)); rintro e w7 ⟨v340, rfl, ho0, hb⟩; refine ⟨_, rfl, ?_⟩; have HO341 := zA (kI (kA (ok' := fun k_ => True) ho0 (fun _ hk_ => trivial)) (kP (zQ HB.out))); replace HB := zA (kQ (zQ HB.out) hb); (try clear hb); (try clear ho0)) | (refine zO (some 12) Tryd.func88 #[.slice A0 l0.length c0, .slice A2 l2.length c2] ?_; (with_reducible refine (impl_ties_normal.calls k _ _ l0 (fun k_ => k_ < w.heap.size) _ _ l2 t342 _ ?side1 ?side2 ?side3 ?side4 A5.out).mono ?_); (case side1 => exact zS (kO HR0.out HB.out)); (case side2 => exact HC0.out); (case side3 => exact Kd.V_mk HC2.out (Kd.F_below (Kd.C_F (Kd.heap_int .i64) HR2.out) (zQ HB.out))); (case side4 => exact TabW.below HT.out (zQ HB.out)); rintro e w8 ⟨v343, rfl, ho0, hb⟩; refine ⟨_, rfl, ?_⟩; have HO344 := zA (kI (kF (kA (ok' := fun k_ => True) ho0 (fun _ hk_ => trivial)) (kH (zP HO341.out))) (kP (zQ HB.out))); replace HO341 := zA (kE (zP HO341.out) (kC ho0) hb); replace HB := zA (kQ (zQ HB.out) hb); (try clear hb); (try clear ho0); obtain ⟨Ao9, co9, eo9⟩ := kM HO341.out; subst eo9; obtain ⟨Ao10, co10, eo10⟩ := kM HO344.out; subst eo10) | (refine zO (some 13) Tryd.func155 #[.slice Ao9 t339.length co9, .slice Ao10 t342.length co10] ?_; (with_reducible refine (slices_Equal_int64_int64.calls k _ _ t339 _ _ t342 t345 _ ?side1 ?side2 ?side3 ?side4 A6.out).mono ?_); (case side1 => exact zS (kB HO341.out).2.2); (case side2 => exact (kB HO341.out).2.1); (case side3 => exact zS (kB HO344.out).2.2); (case side4 => exact (kB HO344.out).2.1); rintro e w' ⟨rfl, ⟨nd, rfl⟩⟩; refine ⟨_, rfl, ?_⟩))
 go_ret
 exact ⟨zr, zQ HB.out⟩

/-! ### impl_ties_meet: function 86 -/
def impl_ties_meet.l0 : Nat → List Int → List Int → List Int → List Int → Option (List Int × List Int × List Int)
 | 0, _, _, _, _ => none
 | k + 1, x0, x1, x2, x9 => (impl_ties_firsts.f k x0 x1).bind fun t349 => ((impl_ties_firsts.f k x0 x2).bind fun t350 => (if (Go.bits .and .i64 t349 t350) = 0 then (some (x9, x1, x2)) else ((impl_least.f (Go.bits .and .i64 t349 t350)).bind fun t351 => (if x9.length < 17592186044416 then ((impl_withoutFirst.f k x1 t351).bind fun t355 => ((impl_withoutFirst.f k x2 t351).bind fun t358 => (impl_ties_meet.l0 k x0 t355 t358 (x9 ++ [t351])))) else (none)))))
def impl_ties_meet.f (k : Nat) (l0 : List Int) (l1 : List Int) (l2 : List Int) : Option (List Int × List Int × List Int) := impl_ties_meet.l0 k l0 l1 l2 (([] : List Int))

set_option maxHeartbeats 8000000 in
set_option maxRecDepth 100000 in
theorem impl_ties_meet.calls (k : Nat) (A0 : Option Addr) (c0 : Nat) (l0 : List Int) (P1_ : Nat → Prop) (A1 : Option Addr) (c1 : Nat) (l1 : List Int) (P2_ : Nat → Prop) (A2 : Option Addr) (c2 : Nat) (l2 : List Int) (r1 : List Int) (r2 : List Int) (r3 : List Int) (w : World) (hr0 : Kd.C (Kd.int .i64) w A0 l0.length l0) (hc0 : l0.length ≤ c0) (hs1 : Kd.V (Kd.int .i64) 2 w w.heap.size (fun k_ => P1_ k_) (.slice A1 l1.length c1) l1) (hs2 : Kd.V (Kd.int .i64) 2 w w.heap.size (fun k_ => P2_ k_) (.slice A2 l2.length c2) l2) (hT : TabW w) (h : impl_ties_meet.f k l0 l1 l2 = some (r1, r2, r3)) :
  Calls Tryd.prog 86 #[.slice A0 l0.length c0, .slice A1 l1.length c1, .slice A2 l2.length c2] w fun e w' => ∃ v0_ v1_ v2_ : Value, e = .returned (.tuple #[v0_, v1_, v2_]) ∧ Kd.R (Kd.int .i64) 2 w' w.heap.size (fun k_ => (w.heap.size ≤ k_)) v0_ r1 ∧ Kd.V (Kd.int .i64) 2 w' w.heap.size (fun k_ => ((P1_ k_ ∨ P2_ k_) ∨ w.heap.size ≤ k_) ∧ some k_ ≠ (v0_ : Value).ownBlock) v1_ r2 ∧ Kd.V (Kd.int .i64) 2 w' w.heap.size (fun k_ => ((P1_ k_ ∨ P2_ k_) ∨ w.heap.size ≤ k_) ∧ some k_ ≠ (v0_ : Value).ownBlock) v2_ r3 ∧ Below w.heap.size w w' := by
 have HT := zA hT
 clear hT
 have HR0 := zA hr0
 have HC0 := zA hc0
 clear hr0 hc0
 have HO1 := zA (show Kd.V (Kd.int .i64) 2 w w.heap.size (fun k_ => ((P1_ k_ ∨ P2_ k_) ∨ w.heap.size ≤ k_)) (.slice A1 l1.length c1) l1 from kN hs1 (fun k_ hk => .inl (.inl hk)))
 have HO2 := zA (show Kd.V (Kd.int .i64) 2 w w.heap.size (fun k_ => ((P1_ k_ ∨ P2_ k_) ∨ w.heap.size ≤ k_)) (.slice A2 l2.length c2) l2 from kN hs2 (fun k_ hk => .inl (.inr hk)))
 have HB := zA (kW w.heap.size w)
 have H := h
 unfold impl_ties_meet.f at H
 clear h
 obtain ⟨y346, hy346⟩ : ∃ y_ : List Int, y_ = (([] : List Int)) := ⟨_, rfl⟩
 replace H : (impl_ties_meet.l0 k l0 l1 l2 y346) = some (r1, r2, r3) := zy hy346 H
 have Ny346 := zA hy346
 clear hy346
 have H' := zA H
 clear H
 go_enter Tryd.func86, Tryd.ntmps86
 go_wp2_with (first | ((with_reducible refine kS (N := 12) rfl ?_); refine Kd.R_lit (Kd.int .i64) _ 2 ?hg (N := 12) ?hd (xs := ([] : List Int)) (inner := []) (ok := fun _ => True) (okp := fun _ => True) ?hr ?hp (fun _ hk => hk) trivial (kW _ _) (Nat.le_refl _) (by simp) ?_; (case hd => rfl); (case hg => rfl); (case hr => first | (go_simp; done) | (go_simp; rfl)); (case hp => exact (Reps.none _ _)); intro v347 w4 ho5 hb hg_ hnew_; clear hg_ hnew_; (first | rw [← Ny346.out] at ho5 | (simp only [Int.reduceToNat] at ho5; rw [← Ny346.out] at ho5)); replace HO1 := zA (kK (zPV HO1.out) (kC ho5) hb); replace HO2 := zA (kK (zPV HO2.out) (kC ho5) hb); have HO348 := zA (kI (Kd.R_newM (M := fun k_ => (w.heap.size ≤ k_)) ho5 (kP (zQ HB.out)) (fun k_ h_ => h_)) (kP (zQ HB.out))); replace HB := zA (kQ (zQ HB.out) hb); clear hb ho5))
 go_loopg [1, 2, 9] k (fun kq v1 v2 v9 w' => ∃ (x1_1 : List Int) (x2_1 : List Int) (x9_1 : List Int), Aside0 (impl_ties_meet.l0 kq l0 x1_1 x2_1 x9_1 = some (r1, r2, r3)) ∧ Aside0 (kq ≤ k) ∧ Aside0 (Kd.V (Kd.int .i64) 2 w' w.heap.size (fun k_ => ((P1_ k_ ∨ P2_ k_) ∨ w.heap.size ≤ k_) ∧ some k_ ≠ (v9 : Value).ownBlock) v1 x1_1) ∧ Aside0 (Kd.V (Kd.int .i64) 2 w' w.heap.size (fun k_ => ((P1_ k_ ∨ P2_ k_) ∨ w.heap.size ≤ k_) ∧ some k_ ≠ (v9 : Value).ownBlock) v2 x2_1) ∧ Aside0 (Kd.R (Kd.int .i64) 2 w' w.heap.size (fun k_ => (w.heap.size ≤ k_)) v9 x9_1) ∧ Aside0 (Below w.heap.size w w'))
 case atStart => exact ⟨(l1), (l2), (y346), H', ⟨Nat.le_refl _⟩, ⟨zPV HO1.out⟩, ⟨zPV HO2.out⟩, ⟨zPM HO348.out (fun _ hk => hk.1)⟩, ⟨zQ HB.out⟩⟩
 case round =>
  clear H'
  try clear c1
  try clear c2
  obtain ⟨x1_1, x2_1, x9_1, HA, HK1, HO_1, HO_2, HO_9, HB⟩ := hrel
  cases gk with
  | zero => exact absurd HA.out (by simp [impl_ties_meet.l0])
  | succ k1 =>
   have H := HA.out
   clear HA
   simp only [impl_ties_meet.l0] at H
   obtain ⟨t349, A6, H⟩ := zb H
   try dsimp only at H
   obtain ⟨t350, A7, H⟩ := zb H
   try dsimp only at H
   by_cases c8 : (Go.bits .and .i64 t349 t350) = 0
   ·rw [if_pos c8] at H
    obtain ⟨c8b0, c8b1⟩ := zT1 c8
    clear c8
    simp only [Option.some.injEq, Prod.mk.injEq] at H
    obtain ⟨rfl, rfl, rfl⟩ := H
    obtain ⟨Ao9, co9, eo9⟩ := Kd.V_slice HO_1.out
    subst eo9
    go_wp2_with (first | (refine zO (some 15) Tryd.func157 #[.slice A0 l0.length c0, .slice Ao9 x1_1.length co9] ?_; (with_reducible refine (impl_ties_firsts.calls k1 _ _ l0 _ _ x1_1 t349 _ ?side1 ?side2 ?side3 ?side4 A6.out).mono ?_); (case side1 => exact zS (kO HR0.out HB.out)); (case side2 => exact HC0.out); (case side3 => exact zS (kJ HO_1.out).2.2); (case side4 => exact (kJ HO_1.out).2.1); rintro e w' ⟨rfl, ⟨nd, rfl⟩⟩; refine ⟨_, rfl, ?_⟩; obtain ⟨Ao10, co10, eo10⟩ := Kd.V_slice HO_2.out; subst eo10) | (refine zO (some 18) Tryd.func157 #[.slice A0 l0.length c0, .slice Ao10 x2_1.length co10] ?_; (with_reducible refine (impl_ties_firsts.calls k1 _ _ l0 _ _ x2_1 t350 _ ?side1 ?side2 ?side3 ?side4 A7.out).mono ?_); (case side1 => exact zS (kO HR0.out (zQ HB.out))); (case side2 => exact HC0.out); (case side3 => exact zS (kJ HO_2.out).2.2); (case side4 => exact (kJ HO_2.out).2.1); rintro e w' ⟨rfl, ⟨nd, rfl⟩⟩; refine ⟨_, rfl, ?_⟩))
    go_ret3
    exact ⟨_, _, _, zr, zP HO_9.out, by (with_reducible repeat (first | apply Kd.V_alloc | apply Kd.V_drewN | apply Kd.V_drew)); exact HO_1.out, by (with_reducible repeat (first | apply Kd.V_alloc | apply Kd.V_drewN | apply Kd.V_drew)); exact HO_2.out, zQ HB.out⟩
   rw [if_neg c8] at H
   obtain ⟨c8b0, c8b1⟩ := zT2 c8
   obtain ⟨t351, A11, H⟩ := zb H
   try dsimp only at H
   by_cases c12 : x9_1.length < 17592186044416
   ·rw [if_pos c12] at H
    have LMc12 := zA c12
    clear c12
    obtain ⟨y352, hy352⟩ : ∃ y_ : List Int, y_ = (x9_1 ++ [t351]) := ⟨_, rfl⟩
    replace H : ((impl_withoutFirst.f k1 x1_1 t351).bind fun t355 => ((impl_withoutFirst.f k1 x2_1 t351).bind fun t358 => (impl_ties_meet.l0 k1 l0 t355 t358 y352))) = some (r1, r2, r3) := zy hy352 H
    have Ny352 := zA hy352
    clear hy352
    obtain ⟨t355, A13, H⟩ := zb H
    try dsimp only at H
    obtain ⟨t358, A14, H⟩ := zb H
    try dsimp only at H
    have H' := zA H
    clear H
    obtain ⟨Ao15, co15, eo15⟩ := Kd.V_slice HO_1.out
    subst eo15
    go_wp2_with (first | (refine zO (some 15) Tryd.func157 #[.slice A0 l0.length c0, .slice Ao15 x1_1.length co15] ?_; (with_reducible refine (impl_ties_firsts.calls k1 _ _ l0 _ _ x1_1 t349 _ ?side1 ?side2 ?side3 ?side4 A6.out).mono ?_); (case side1 => exact zS (kO HR0.out HB.out)); (case side2 => exact HC0.out); (case side3 => exact zS (kJ HO_1.out).2.2); (case side4 => exact (kJ HO_1.out).2.1); rintro e w' ⟨rfl, ⟨nd, rfl⟩⟩; refine ⟨_, rfl, ?_⟩; obtain ⟨Ao16, co16, eo16⟩ := Kd.V_slice HO_2.out; subst eo16) | (refine zO (some 18) Tryd.func157 #[.slice A0 l0.length c0, .slice Ao16 x2_1.length co16] ?_; (with_reducible refine (impl_ties_firsts.calls k1 _ _ l0 _ _ x2_1 t350 _ ?side1 ?side2 ?side3 ?side4 A7.out).mono ?_); (case side1 => exact zS (kO HR0.out (zQ HB.out))); (case side2 => exact HC0.out); (case side3 => exact zS (kJ HO_2.out).2.2); (case side4 => exact (kJ HO_2.out).2.1); rintro e w' ⟨rfl, ⟨nd, rfl⟩⟩; refine ⟨_, rfl, ?_⟩) | (refine zO (some 26) Tryd.func137 #[.int .i64 (Go.bits .and .i64 t349 t350)] ?_; (with_reducible refine (impl_least.calls (Go.bits .and .i64 t349 t350) t351 _ ?side1 A11.out).mono ?_); (case side1 => exact TabW.below HT.out (zQ HB.out)); rintro e w' ⟨rfl, ⟨nd, rfl⟩⟩; refine ⟨_, rfl, ?_⟩) | ((with_reducible refine gate_builtin (b := .append) (xs := #[.tmp 27, .tmp 29]) rfl ?_); at_builtin; refine Kd.R_append (Kd.int .i64) (w0 := w) w.heap.size rfl (.tmp 27) (.tmp 29) 22 2 (.int .i64 0) 8 rfl Tryd.underlying22 info2 rfl (by decide) (by omega) u9 x9_1 t351 [.int .i64 t351] (fun k_ => (w.heap.size ≤ k_)) (fun _ => False) rfl rfl ?aP (fun _ hk => hk.elim) ?aF ?aO ?aB ?aS ?aL ?_; (case aP => exact rfl); (case aB => exact (zQ HB.out)); (case aF => exact (fun k_ hk => (Nat.le_trans (kP (zQ HB.out)) hk))); (case aO => exact (zP HO_9.out)); (case aS => exact (kP (zQ HB.out))); (case aL => have := LMc12.out; omega); intro v353 w17 ho hb hg hat; rw [← Ny352.out] at ho; replace HO_1 := zA (Kd.V_afterv (ok := (fun k_ => ((P1_ k_ ∨ P2_ k_) ∨ w.heap.size ≤ k_))) (zPV HO_1.out) hg hat); replace HO_2 := zA (Kd.V_afterv (ok := (fun k_ => ((P1_ k_ ∨ P2_ k_) ∨ w.heap.size ≤ k_))) (zPV HO_2.out) hg hat); replace HB := zA (hb); have HO354 := zA (ho); clear HO_9; clear ho hb hg hat) | (refine zO (some 33) Tryd.func158 #[.slice Ao15 x1_1.length co15, .int .i64 t351] ?_; (with_reducible refine (impl_withoutFirst.calls k1 (fun k_ => (((P1_ k_ ∨ P2_ k_) ∨ w.heap.size ≤ k_) ∧ some k_ ≠ (v353 : Value).ownBlock)) _ _ x1_1 t351 t355 _ ?side1 A13.out).mono ?_); (case side1 => exact HO_1.out); rintro e w18 ⟨v356, rfl, ho0, hb⟩; refine ⟨_, rfl, ?_⟩; replace HO_1 := zA (kK (zPV HO_1.out) (kC ho0) hb); replace HO_2 := zA (kK (zPV HO_2.out) (kC ho0) hb); have HO357 := zA (kI (kF (Kd.R_newM (M := fun k_ => (w.heap.size ≤ k_)) (kA (ok' := fun k_ => True) ho0 (fun _ hk_ => trivial)) (kP (zQ HB.out)) (fun k_ h_ => h_)) (kH (zP HO354.out))) (kP (zQ HB.out))); replace HO354 := zA (kE (zP HO354.out) (kC ho0) hb); replace HB := zA (kQ (zQ HB.out) hb); (try clear hb); (try clear ho0)) | (refine zO (some 36) Tryd.func158 #[.slice Ao16 x2_1.length co16, .int .i64 t351] ?_; (with_reducible refine (impl_withoutFirst.calls k1 (fun k_ => ((((P1_ k_ ∨ P2_ k_) ∨ w.heap.size ≤ k_) ∧ some k_ ≠ (v353 : Value).ownBlock) ∧ some k_ ≠ (v356 : Value).ownBlock)) _ _ x2_1 t351 t358 _ ?side1 A14.out).mono ?_); (case side1 => exact HO_2.out); rintro e w19 ⟨v359, rfl, ho0, hb⟩; refine ⟨_, rfl, ?_⟩; replace HO_1 := zA (kK (zPV HO_1.out) (kC ho0) hb); replace HO_2 := zA (kK (zPV HO_2.out) (kC ho0) hb); have HO360 := zA (kI (kF (kF (Kd.R_newM (M := fun k_ => (w.heap.size ≤ k_)) (kA (ok' := fun k_ => True) ho0 (fun _ hk_ => trivial)) (kP (zQ HB.out)) (fun k_ h_ => h_)) (kH (zP HO354.out))) (kH (zP HO357.out))) (kP (zQ HB.out))); replace HO354 := zA (kE (zP HO354.out) (kC ho0) hb); replace HO357 := zA (kE (zP HO357.out) (kC ho0) hb); replace HB := zA (kQ (zQ HB.out) hb); (try clear hb); (try clear ho0)))
    go_roundg k1
    case measure => have := HK1.out; omega
    case rel => exact ⟨(t355), (t358), (y352), H', ⟨by have := HK1.out; omega⟩, ⟨kN (jL (zP HO357.out)) (fun k_ hk => by first | exact ⟨(.inr (hk.1.1.1)), hk.1.2⟩ | exact ⟨(.inr (hk.1)), hk.2⟩ | exact (.inr (hk)))⟩, ⟨kN (jL (zP HO360.out)) (fun k_ hk => by first | exact ⟨(.inr (hk.1.1.1)), hk.1.2⟩ | exact ⟨(.inr (hk.1)), hk.2⟩ | exact (.inr (hk)))⟩, ⟨zPM HO354.out (fun _ hk => hk.1.1)⟩, ⟨zQ HB.out⟩⟩
   rw [if_neg c12] at H
   exact absurd H (by simp)

/-! ### impl_ties_quotient: function 87 -/
def impl_ties_quotient.l0 : Nat → List Int → List Int → List Int → Int → Int → Option (List Int × Bool)
 | 0, _, _, _, _, _ => none
 | k + 1, x0, x2, x10, x11, x12 => if x12 < x11 then (if 0 ≤ x12 then (if x12 < (x10.length : Int) then ((impl_ties_firsts.f k x0 x2).bind fun t362 => ((impl_has.f t362 (rd x10 x12)).bind fun t363 => (if t363 = true then ((impl_withoutFirst.f k x2 (rd x10 x12)).bind fun t364 => (impl_ties_quotient.l0 k x0 t364 x10 x11 (wrap64 (x12 + 1)))) else (some (([] : List Int), false))))) else (none)) else (none)) else (some (x2, true))
def impl_ties_quotient.f (k : Nat) (l0 : List Int) (l1 : List Int) (l2 : List Int) : Option (List Int × Bool) := impl_ties_quotient.l0 k l0 l2 l1 (l1.length : Int) 0

set_option maxHeartbeats 8000000 in
set_option maxRecDepth 100000 in
theorem impl_ties_quotient.calls (k : Nat) (A0 : Option Addr) (c0 : Nat) (l0 : List Int) (A1 : Option Addr) (c1 : Nat) (l1 : List Int) (P2_ : Nat → Prop) (A2 : Option Addr) (c2 : Nat) (l2 : List Int) (r1 : List Int) (r2 : Bool) (w : World) (hr0 : Kd.C (Kd.int .i64) w A0 l0.length l0) (hc0 : l0.length ≤ c0) (hr1 : Kd.C (Kd.int .i64) w A1 l1.length l1) (hc1 : l1.length ≤ c1) (hs2 : Kd.V (Kd.int .i64) 2 w w.heap.size (fun k_ => P2_ k_) (.slice A2 l2.length c2) l2) (h : impl_ties_quotient.f k l0 l1 l2 = some (r1, r2)) :
  Calls Tryd.prog 87 #[.slice A0 l0.length c0, .slice A1 l1.length c1, .slice A2 l2.length c2] w fun e w' => ∃ v0_ : Value, e = .returned (.tuple #[v0_, .bool r2]) ∧ Kd.V (Kd.int .i64) 2 w' w.heap.size (fun k_ => (P2_ k_ ∨ w.heap.size ≤ k_)) v0_ r1 ∧ Below w.heap.size w w' := by
 have HR0 := zA hr0
 have HC0 := zA hc0
 clear hr0 hc0
 have HR1 := zA hr1
 have HC1 := zA hc1
 clear hr1 hc1
 have HO2 := zA (show Kd.V (Kd.int .i64) 2 w w.heap.size (fun k_ => (P2_ k_ ∨ w.heap.size ≤ k_)) (.slice A2 l2.length c2) l2 from kN hs2 (fun k_ hk => .inl hk))
 have HB := zA (kW w.heap.size w)
 have H := h
 unfold impl_ties_quotient.f at H
 clear h
 have H' := zA H
 clear H
 go_enter Tryd.func87, Tryd.ntmps87
 go_wp2
 go_loopg [2, 12] k (fun kq v2 v12 w' => ∃ (x2_1 : List Int) (x12_1 : Int), v12 = .int .i64 x12_1 ∧ Aside0 (impl_ties_quotient.l0 kq l0 x2_1 l1 (l1.length : Int) x12_1 = some (r1, r2)) ∧ Aside0 (kq ≤ k) ∧ Aside0 (Kd.V (Kd.int .i64) 2 w' w.heap.size (fun k_ => (P2_ k_ ∨ w.heap.size ≤ k_)) v2 x2_1) ∧ Aside0 (Below w.heap.size w w'))
 case atStart => exact ⟨(l2), (0), zs, H', ⟨Nat.le_refl _⟩, ⟨zPV HO2.out⟩, ⟨zQ HB.out⟩⟩
 case round =>
  clear H'
  try clear c1
  try clear c2
  obtain ⟨x2_1, x12_1, rfl, HA, HK1, HO_2, HB⟩ := hrel
  cases gk with
  | zero => exact absurd HA.out (by simp [impl_ties_quotient.l0])
  | succ k1 =>
   have H := HA.out
   clear HA
   simp only [impl_ties_quotient.l0] at H
   by_cases c4 : x12_1 < (l1.length : Int)
   ·rw [if_pos c4] at H
    have c4b0 : decide (x12_1 < (l1.length : Int)) = true := decide_eq_true c4
    clear c4
    by_cases c5 : 0 ≤ x12_1
    ·rw [if_pos c5] at H
     have c5b0 : decide (0 ≤ x12_1) = true := decide_eq_true c5
     clear c5
     by_cases c6 : x12_1 < (l1.length : Int)
     ·rw [if_pos c6] at H
      have c6b0 : decide (x12_1 < (l1.length : Int)) = true := decide_eq_true c6
      clear c6
      obtain ⟨t362, A7, H⟩ := zb H
      try dsimp only at H
      obtain ⟨t363, A8, H⟩ := zb H
      try dsimp only at H
      by_cases c9 : t363 = true
      ·subst c9
       rw [if_pos rfl] at H
       obtain ⟨t364, A10, H⟩ := zb H
       try dsimp only at H
       have H' := zA H
       clear H
       have p361 : 0 ≤ (x12_1 : Int) := zd
       have q361 : x12_1 < (l1.length : Int) := zd
       obtain ⟨ad361, e361, hx361_0⟩ := Kd.at_int HR1.out x12_1 p361 q361
       cases e361
       replace hx361_0 := (HB.out.cell (jG w _ hx361_0)).trans hx361_0
       replace p361 := eq_true p361
       replace q361 := eq_true q361
       obtain ⟨Ao11, co11, eo11⟩ := Kd.V_slice HO_2.out
       subst eo11
       go_wp2_with (first | (refine zO (some 18) Tryd.func157 #[.slice A0 l0.length c0, .slice Ao11 x2_1.length co11] ?_; (with_reducible refine (impl_ties_firsts.calls k1 _ _ l0 _ _ x2_1 t362 _ ?side1 ?side2 ?side3 ?side4 A7.out).mono ?_); (case side1 => exact zS (kO HR0.out HB.out)); (case side2 => exact HC0.out); (case side3 => exact zS (kJ HO_2.out).2.2); (case side4 => exact (kJ HO_2.out).2.1); rintro e w' ⟨rfl, ⟨nd, rfl⟩⟩; refine ⟨_, rfl, ?_⟩) | (refine zO (some 20) Tryd.func159 #[.int .i64 t362, .int .i64 (rd l1 x12_1)] ?_; (with_reducible refine (impl_has.calls t362 (rd l1 x12_1) true _ A8.out).mono ?_); rintro e w' ⟨rfl, ⟨nd, rfl⟩⟩; refine ⟨_, rfl, ?_⟩) | (refine zO (some 24) Tryd.func158 #[.slice Ao11 x2_1.length co11, .int .i64 (rd l1 x12_1)] ?_; (with_reducible refine (impl_withoutFirst.calls k1 (fun k_ => (P2_ k_ ∨ w.heap.size ≤ k_)) _ _ x2_1 (rd l1 x12_1) t364 _ ?side1 A10.out).mono ?_); (case side1 => exact HO_2.out); rintro e w12 ⟨v365, rfl, ho0, hb⟩; refine ⟨_, rfl, ?_⟩; replace HO_2 := zA (kK (zPV HO_2.out) (kC ho0) hb); have HO366 := zA (kI (Kd.R_newM (M := fun k_ => (w.heap.size ≤ k_)) (kA (ok' := fun k_ => True) ho0 (fun _ hk_ => trivial)) (kP (zQ HB.out)) (fun k_ h_ => h_)) (kP (zQ HB.out))); replace HB := zA (kQ (zQ HB.out) hb); (try clear hb); (try clear ho0)))
       go_roundg k1
       case measure => have := HK1.out; omega
       case rel => exact ⟨(t364), (wrap64 (x12_1 + 1)), zs, H', ⟨by have := HK1.out; omega⟩, ⟨kN (jL (zP HO366.out)) (fun k_ hk => by first | exact (.inr (hk.1)) | exact ⟨(.inr (hk.1)), hk.2⟩ | exact (.inr (hk)))⟩, ⟨zQ HB.out⟩⟩
      replace c9 := Bool.eq_false_iff.mpr c9
      subst c9
      rw [if_neg (show ¬ (false = true) by decide)] at H
      simp only [Option.some.injEq, Prod.mk.injEq] at H
      obtain ⟨rfl, rfl⟩ := H
      have p361 : 0 ≤ (x12_1 : Int) := zd
      have q361 : x12_1 < (l1.length : Int) := zd
      obtain ⟨ad361, e361, hx361_0⟩ := Kd.at_int HR1.out x12_1 p361 q361
      cases e361
      replace hx361_0 := (HB.out.cell (jG w _ hx361_0)).trans hx361_0
      replace p361 := eq_true p361
      replace q361 := eq_true q361
      obtain ⟨Ao13, co13, eo13⟩ := Kd.V_slice HO_2.out
      subst eo13
      go_wp2_with (first | (refine zO (some 18) Tryd.func157 #[.slice A0 l0.length c0, .slice Ao13 x2_1.length co13] ?_; (with_reducible refine (impl_ties_firsts.calls k1 _ _ l0 _ _ x2_1 t362 _ ?side1 ?side2 ?side3 ?side4 A7.out).mono ?_); (case side1 => exact zS (kO HR0.out HB.out)); (case side2 => exact HC0.out); (case side3 => exact zS (kJ HO_2.out).2.2); (case side4 => exact (kJ HO_2.out).2.1); rintro e w' ⟨rfl, ⟨nd, rfl⟩⟩; refine ⟨_, rfl, ?_⟩) | (refine zO (some 20) Tryd.func159 #[.int .i64 t362, .int .i64 (rd l1 x12_1)] ?_; (with_reducible refine (impl_has.calls t362 (rd l1 x12_1) false _ A8.out).mono ?_); rintro e w' ⟨rfl, ⟨nd, rfl⟩⟩; refine ⟨_, rfl, ?_⟩))
      go_ret2
      exact ⟨_, zr, zn, zQ HB.out⟩
     rw [if_neg c6] at H
     exact absurd H (by simp)
    rw [if_neg c5] at H
    exact absurd H (by simp)
   rw [if_neg c4] at H
   have c4b0 : decide (x12_1 < (l1.length : Int)) = false := decide_eq_false c4
   clear c4
   simp only [Option.some.injEq, Prod.mk.injEq] at H
   obtain ⟨rfl, rfl⟩ := H
   go_wp2
   go_ret2
   exact ⟨_, zr, by (with_reducible repeat (first | apply Kd.V_alloc | apply Kd.V_drewN | apply Kd.V_drew)); exact HO_2.out, zQ HB.out⟩

end Go.Proofs.YthgapkbkhoeleaaDoor.PAll
