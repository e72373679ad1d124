-- Printed by a program of the session (wip/tools/pgen.py) out of the translation. Not trusted: Lean checks it.
import Derived.Test.YthgapkbkhoeleaaDoorPAllx0
import Derived.Test.YthgapkbkhoeleaaDoorPAllx1
import Derived.Test.YthgapkbkhoeleaaDoorPAllx2
namespace Go.Proofs.YthgapkbkhoeleaaDoor.PAll
open Go.RowKit Go.Proofs.YthgapkbkhoeleaaDoor.T Go.Proofs.YthgapkbkhoeleaaDoorW.PrintWords Go.Proofs.YthgapkbkhoeleaaDoorW.PrintLast Go.Proofs.YthgapkbkhoeleaaDoorW.PrintMore
attribute [local go_sem] max2_int min2_int max_two min_two max_three min_three max_four min_four   -- for this text's walks alone
set_option linter.unusedVariables false
set_option linter.unusedSimpArgs false

/-! ### impl_ties_firsts: function 157 -/
def impl_ties_firsts.l0 : Nat → List Int → Int → Int → List Int → Int → Int → Option (Int)
 | 0, _, _, _, _, _, _ => none
 | k + 1, x0, x5, x6, x9, x10, x11 => if x11 < x10 then (if 0 ≤ x11 then (if x11 < (x9.length : Int) then ((impl_has.f x6 (rd x9 x11)).bind fun t248 => (if t248 = true then (if 0 ≤ (rd x9 x11) then (if (rd x9 x11) < (x0.length : Int) then (impl_ties_firsts.l0 k x0 x5 (Go.bits .or .i64 x6 (rd x0 (rd x9 x11))) x9 x10 (wrap64 (x11 + 1))) else (none)) else (none)) else ((impl_one.f (rd x9 x11)).bind fun t250 => (if 0 ≤ (rd x9 x11) then (if (rd x9 x11) < (x0.length : Int) then (impl_ties_firsts.l0 k x0 (Go.bits .or .i64 x5 t250) (Go.bits .or .i64 x6 (rd x0 (rd x9 x11))) x9 x10 (wrap64 (x11 + 1))) else (none)) else (none))))) else (none)) else (none)) else (some x5)
def impl_ties_firsts.f (k : Nat) (l0 : List Int) (l1 : List Int) : Option (Int) := impl_ties_firsts.l0 k l0 0 0 l1 (l1.length : Int) 0

set_option maxHeartbeats 8000000 in
set_option maxRecDepth 100000 in
theorem impl_ties_firsts.calls (k : Nat) (A0 : Option Addr) (c0 : Nat) (l0 : List Int) (A1 : Option Addr) (c1 : Nat) (l1 : List Int) (r : Int) (w : World) (hr0 : Kd.C (Kd.int .i64) w A0 l0.length l0) (hc0 : l0.length ≤ c0) (hr1 : Kd.C (Kd.int .i64) w A1 l1.length l1) (hc1 : l1.length ≤ c1) (h : impl_ties_firsts.f k l0 l1 = some r) :
  Calls Tryd.prog 157 #[.slice A0 l0.length c0, .slice A1 l1.length c1] w fun e w' => e = .returned (.int .i64 r) ∧ Drawn0 w w' := by
 have HR0 := zA hr0
 have HC0 := zA hc0
 clear hr0 hc0
 have HR1 := zA hr1
 have HC1 := zA hc1
 clear hr1 hc1
 have H := h
 unfold impl_ties_firsts.f at H
 clear h
 have H' := zA H
 clear H
 go_enter Tryd.func157, Tryd.ntmps157
 go_wp2
 go_loopg [5, 6, 11] k (fun kq v5 v6 v11 w' => ∃ (x5_1 : Int) (x6_1 : Int) (x11_1 : Int), v5 = .int .i64 x5_1 ∧ v6 = .int .i64 x6_1 ∧ v11 = .int .i64 x11_1 ∧ Aside0 (impl_ties_firsts.l0 kq l0 x5_1 x6_1 l1 (l1.length : Int) x11_1 = some r) ∧ Aside0 (kq ≤ k) ∧ Drawn0 w w')
 case atStart => exact ⟨(0), (0), (0), zs, zs, zs, H', ⟨Nat.le_refl _⟩, by repeat (first | exact Drawn0.refl _ | apply Drawn0.step)⟩
 case round =>
  clear H'
  try clear c1
  obtain ⟨x5_1, x6_1, x11_1, rfl, rfl, rfl, HA, HK1, ⟨m1, rfl⟩⟩ := hrel
  cases gk with
  | zero => exact absurd HA.out (by simp [impl_ties_firsts.l0])
  | succ k1 =>
   have H := HA.out
   clear HA
   simp only [impl_ties_firsts.l0] at H
   by_cases c3 : x11_1 < (l1.length : Int)
   ·rw [if_pos c3] at H
    have c3b0 : decide (x11_1 < (l1.length : Int)) = true := decide_eq_true c3
    clear c3
    by_cases c4 : 0 ≤ x11_1
    ·rw [if_pos c4] at H
     have c4b0 : decide (0 ≤ x11_1) = true := decide_eq_true c4
     clear c4
     by_cases c5 : x11_1 < (l1.length : Int)
     ·rw [if_pos c5] at H
      have c5b0 : decide (x11_1 < (l1.length : Int)) = true := decide_eq_true c5
      clear c5
      obtain ⟨t248, A6, H⟩ := zb H
      try dsimp only at H
      by_cases c7 : t248 = true
      ·subst c7
       rw [if_pos rfl] at H
       by_cases c8 : 0 ≤ (rd l1 x11_1)
       ·rw [if_pos c8] at H
        have c8b0 : decide (0 ≤ (rd l1 x11_1)) = true := decide_eq_true c8
        clear c8
        by_cases c9 : (rd l1 x11_1) < (l0.length : Int)
        ·rw [if_pos c9] at H
         have c9b0 : decide ((rd l1 x11_1) < (l0.length : Int)) = true := decide_eq_true c9
         clear c9
         have H' := zA H
         clear H
         have p247 : 0 ≤ (x11_1 : Int) := zd
         have q247 : x11_1 < (l1.length : Int) := zd
         obtain ⟨ad247, e247, hx247_0⟩ := Kd.at_int HR1.out x11_1 p247 q247
         cases e247
         replace p247 := eq_true p247
         replace q247 := eq_true q247
         go_wp2_with (first | (refine zO (some 17) Tryd.func159 #[.int .i64 x6_1, .int .i64 (rd l1 x11_1)] ?_; (with_reducible refine (impl_has.calls x6_1 (rd l1 x11_1) true _ A6.out).mono ?_); rintro e w' ⟨rfl, ⟨nd, rfl⟩⟩; refine ⟨_, rfl, ?_⟩; have p249 : 0 ≤ ((rd l1 x11_1) : Int) := zd; have q249 : (rd l1 x11_1) < (l0.length : Int) := zd; obtain ⟨ad249, e249, hx249_0⟩ := Kd.at_int HR0.out (rd l1 x11_1) p249 q249; cases e249; replace p249 := eq_true p249; replace q249 := eq_true q249))
         go_roundg k1
         case measure => have := HK1.out; omega
         case rel => exact ⟨(x5_1), (Go.bits .or .i64 x6_1 (rd l0 (rd l1 x11_1))), (wrap64 (x11_1 + 1)), zs, zs, zs, H', ⟨by have := HK1.out; omega⟩, by repeat (first | exact Drawn0.refl _ | apply Drawn0.step)⟩
        rw [if_neg c9] at H
        exact absurd H (by simp)
       rw [if_neg c8] at H
       exact absurd H (by simp)
      replace c7 := Bool.eq_false_iff.mpr c7
      subst c7
      rw [if_neg (show ¬ (false = true) by decide)] at H
      obtain ⟨t250, A10, H⟩ := zb H
      try dsimp only at H
      by_cases c11 : 0 ≤ (rd l1 x11_1)
      ·rw [if_pos c11] at H
       have c11b0 : decide (0 ≤ (rd l1 x11_1)) = true := decide_eq_true c11
       clear c11
       by_cases c12 : (rd l1 x11_1) < (l0.length : Int)
       ·rw [if_pos c12] at H
        have c12b0 : decide ((rd l1 x11_1) < (l0.length : Int)) = true := decide_eq_true c12
        clear c12
        have H' := zA H
        clear H
        have p247 : 0 ≤ (x11_1 : Int) := zd
        have q247 : x11_1 < (l1.length : Int) := zd
        obtain ⟨ad247, e247, hx247_0⟩ := Kd.at_int HR1.out x11_1 p247 q247
        cases e247
        replace p247 := eq_true p247
        replace q247 := eq_true q247
        go_wp2_with (first | (refine zO (some 17) Tryd.func159 #[.int .i64 x6_1, .int .i64 (rd l1 x11_1)] ?_; (with_reducible refine (impl_has.calls x6_1 (rd l1 x11_1) false _ A6.out).mono ?_); rintro e w' ⟨rfl, ⟨nd, rfl⟩⟩; refine ⟨_, rfl, ?_⟩) | (refine zO (some 21) Tryd.func118 #[.int .i64 (rd l1 x11_1)] ?_; (with_reducible refine (impl_one.calls (rd l1 x11_1) t250 _ A10.out).mono ?_); rintro e w' ⟨rfl, ⟨nd, rfl⟩⟩; refine ⟨_, rfl, ?_⟩; have p251 : 0 ≤ ((rd l1 x11_1) : Int) := zd; have q251 : (rd l1 x11_1) < (l0.length : Int) := zd; obtain ⟨ad251, e251, hx251_0⟩ := Kd.at_int HR0.out (rd l1 x11_1) p251 q251; cases e251; replace p251 := eq_true p251; replace q251 := eq_true q251))
        go_roundg k1
        case measure => have := HK1.out; omega
        case rel => exact ⟨(Go.bits .or .i64 x5_1 t250), (Go.bits .or .i64 x6_1 (rd l0 (rd l1 x11_1))), (wrap64 (x11_1 + 1)), zs, zs, zs, H', ⟨by have := HK1.out; omega⟩, by repeat (first | exact Drawn0.refl _ | apply Drawn0.step)⟩
       rw [if_neg c12] at H
       exact absurd H (by simp)
      rw [if_neg c11] at H
      exact absurd H (by simp)
     rw [if_neg c5] at H
     exact absurd H (by simp)
    rw [if_neg c4] at H
    exact absurd H (by simp)
   rw [if_neg c3] at H
   have c3b0 : decide (x11_1 < (l1.length : Int)) = false := decide_eq_false c3
   clear c3
   obtain rfl := Option.some.inj H
   go_wp2
   go_ret
   exact ⟨zs, by repeat (first | exact Drawn0.refl _ | apply Drawn0.step)⟩

-- NOT PRINTED: function 156 (slices_Grow_int64_int64)

/-! ### slices_Concat_int64_int64: function 85: a contract of our own -/
def slices_Concat_int64_int64.f (l0 : List (List Int)) : Option (List Int) := if (l0.map List.length).sum < 17592186044416 then some l0.flatten else none
theorem pw_wrap64_id {x : Int} (h1 : -9223372036854775808 ≤ x) (h2 : x ≤ 9223372036854775807) : wrap64 x = x := by
 unfold wrap64
 omega
set_option maxHeartbeats 2000000 in
set_option maxRecDepth 100000 in
theorem grow_nil (n : Int) (h0 : 0 ≤ n) (hn : n < 17592186044416) (w : World) :
  Calls Tryd.prog 156 #[.slice none 0 0, .int .i64 n] w fun e w' => ∃ v0_ : Value, e = .returned (v0_) ∧ Kd.R (Kd.int .i64) 2 w' w.heap.size (fun _ => True) v0_ [] ∧ Below w.heap.size w w' := by
 have e0 : (n < 0) = False := by simp; omega
 by_cases hp : 0 < n
 ·have e1 : (0 < n) = True := by simp [hp]
  go_enter Tryd.func156, Tryd.ntmps156
  go_wp2_with (first | ((with_reducible refine gate_builtin (b := .append) (xs := #[.tmp 20, .tmp 21]) rfl ?_); at_builtin; refine Kd.R_append_zeros (Kd.int .i64) (w0 := w) w.heap.size rfl (.tmp 20) (.tmp 21) 22 3 2 (.int .i64 0) 8 rfl Tryd.underlying22 Tryd.underlying3 info2 rfl (by decide) (by omega) (.slice none 0 0) [] 0 n (fun _ => True) rfl rfl rfl (fun _ _ => trivial) (jO _ _ _ _ _) h0 (kW _ _) (Nat.le_refl _) (by simp; omega) ?_; intro v1 w1 ho hb hg hat; have hs := kM ho; obtain ⟨A1, c1, rfl⟩ := hs; have HO := zA (Kd.R_take ho (Nat.zero_le _)); have HB := zA hb; clear ho hb hg hat))
  go_ret
  exact ⟨_, rfl, HO.out, HB.out⟩
 have e1 : n = 0 := by omega
 subst e1
 go_enter Tryd.func156, Tryd.ntmps156
 go_wp2
 go_ret
 exact ⟨_, rfl, jO _ _ _ _ _, kW _ _⟩
theorem take_sum_step (l : List (List Int)) (k : Nat) (hk : k < l.length) : ((l.take (k + 1)).map List.length).sum = ((l.take k).map List.length).sum + (l.getD k []).length := by
 rw [List.take_add_one, List.getElem?_eq_getElem hk, List.map_append, List.sum_append]
 simp [List.getD_eq_getElem?_getD, hk]
theorem take_sum_le (l : List (List Int)) (k : Nat) : ((l.take k).map List.length).sum ≤ (l.map List.length).sum := by
 have h : (l.map List.length).sum = ((l.take k).map List.length).sum + ((l.drop k).map List.length).sum := by
  rw [← List.sum_append, ← List.map_append, List.take_append_drop]
 omega
theorem take_flatten_step (l : List (List Int)) (k : Nat) (hk : k < l.length) : (l.take (k + 1)).flatten = (l.take k).flatten ++ l.getD k [] := by
 rw [List.take_add_one, List.getElem?_eq_getElem hk, List.flatten_append]
 simp [List.getD_eq_getElem?_getD, hk]
set_option maxHeartbeats 4000000 in
set_option maxRecDepth 100000 in
theorem slices_Concat_int64_int64.calls (A0 : Option Addr) (c0 : Nat) (l0 : List (List Int)) (r : List Int) (w : World) (hr0 : Kd.C (Kd.slice 22 (Kd.int .i64)) w A0 l0.length l0) (hc0 : l0.length ≤ c0) (h : slices_Concat_int64_int64.f l0 = some r) :
  Calls Tryd.prog 85 #[.slice A0 l0.length c0] w fun e w' => ∃ v0_ : Value, e = .returned (v0_) ∧ Kd.R (Kd.int .i64) 2 w' w.heap.size (fun _ => True) v0_ r ∧ Below w.heap.size w w' := by
 unfold slices_Concat_int64_int64.f at h
 by_cases hT : (l0.map List.length).sum < 17592186044416
 ·rw [if_pos hT] at h
  obtain rfl := Option.some.inj h
  clear h hc0
  have hl : l0.length ≤ 9223372036854775807 := hr0.2.1
  have HR0 := zA hr0
  have HT := zA hT
  clear hr0 hT
  go_enter Tryd.func85, Tryd.ntmps85
  go_wp2
  go_loopg [3, 5, 11] l0.length (fun gg v3 _ v11 wr => ∃ kk : Nat, kk ≤ l0.length ∧ l0.length - kk ≤ gg ∧ v3 = .int .i64 (((l0.take kk).map List.length).sum : Nat) ∧ v11 = .int .i64 kk ∧ Aside0 (Below w.heap.size w wr))
  case atStart => exact ⟨0, Nat.zero_le _, by omega, by simp, rfl, ⟨kW _ _⟩⟩
  case round =>
   obtain ⟨kk, hkk, hg, rfl, rfl, HB⟩ := hrel
   by_cases hlt : kk < l0.length
   ·have hltz : (kk : Int) < (l0.length : Int) := by omega
    obtain ⟨ad, A1, c1, e0, hcell, hc1, hC1⟩ := at_row HR0.out kk hlt
    cases e0
    have S1 := zA (take_sum_step l0 kk hlt)
    have S2 := zA (take_sum_le l0 (kk + 1))
    replace hcell := pw_cell_below HB.out hcell
    clear hc1 hC1
    generalize hy : l0.getD kk [] = y at hcell S1
    generalize ((l0.take kk).map List.length).sum = s at S1 ⊢
    clear hy
    have hn : ¬ (wrap64 ((s : Int) + (y.length : Int)) < 0) := by
     have h1 := S1.out
     have h2 := S2.out
     have h3 := HT.out
     rw [pw_wrap64_id (by omega) (by omega)]; omega
    go_wp2
    go_roundg (l0.length - (kk + 1))
    case measure => omega
    case rel =>
     refine ⟨kk + 1, by omega, by omega, ?_, by go_num, ?_⟩
     ·rw [S1.out]
      have h1 := S1.out
      have h2 := S2.out
      have h3 := HT.out
      rw [pw_wrap64_id (by omega) (by omega)]; simp
     exact HB
   have hltz : ¬ (kk : Int) < (l0.length : Int) := by omega
   have : kk = l0.length := by omega
   subst this
   rw [List.take_length]
   have hF : ∀ kk, kk ≤ l0.length → ((l0.take kk).flatten).length ≤ (l0.map List.length).sum := fun kk _ => by
    rw [List.length_flatten]; exact take_sum_le l0 kk
   replace hF := zA hF
   generalize (l0.map List.length).sum = s at HT hF ⊢
   have hcall := grow_nil (s : Int) (by omega) (by have := HT.out; omega) wr
   replace hcall := zA hcall
   go_wp2_with fail
   refine hcall.out.mono ?_
   rintro e w1 ⟨v1, rfl, ho, hb⟩
   have HO := zA (kI ho HB.out.size)
   have HB1 := zA (kQ HB.out hb)
   clear hcall ho hb
   go_wp2
   go_loopg [6, 8, 27] l0.length (fun gg v6 _ v27 wr => ∃ kk : Nat, kk ≤ l0.length ∧ l0.length - kk ≤ gg ∧ v27 = .int .i64 kk ∧ Aside0 (Kd.R (Kd.int .i64) 2 wr w.heap.size (fun _ => True) v6 (l0.take kk).flatten) ∧ Aside0 (Below w.heap.size w wr))
   case atStart => exact ⟨0, Nat.zero_le _, by omega, rfl, ⟨by simpa using HO.out⟩, HB1⟩
   case round =>
    clear HO HB1 HB
    obtain ⟨kk, hkk, hg, rfl, HO, HB⟩ := hrel
    by_cases hlt : kk < l0.length
    ·have hltz : (kk : Int) < (l0.length : Int) := by omega
     obtain ⟨ad, A1, c1, e0, hcell, hc1, hC1⟩ := at_row HR0.out kk hlt
     cases e0
     have S1 := zA (take_flatten_step l0 kk hlt)
     have S2 := zA (hF.out (kk + 1) (by omega))
     replace hcell := pw_cell_below HB.out hcell
     replace hC1 := zA (kO hC1 HB.out)
     clear hc1
     generalize hy : l0.getD kk [] = y at hcell S1 hC1
     clear hy
     generalize hz : (l0.take kk).flatten = z at HO S1
     clear hz
     have hlen : z.length + y.length ≤ s := by
      have h2 := S2.out
      rw [S1.out, List.length_append] at h2
      exact h2
     have HLN := zA hlen
     clear hlen
     go_wp2_with (first | ((with_reducible refine gate_builtin (b := .append) (xs := #[.tmp 31, .tmp 32]) rfl ?_); at_builtin; refine Kd.R_append_rows (Kd.int .i64) (w0 := w) w.heap.size rfl (.tmp 31) (.tmp 32) 22 2 (.int .i64 0) 8 rfl Tryd.underlying22 info2 rfl (by decide) (by omega) u6 z y _ _ _ (fun _ => True) (fun _ => False) rfl rfl ?aO ?aR (fun _ _ h => h) (fun _ h => h.elim) (fun _ _ => trivial) ?aB ?aS (by have := HLN.out; have := HT.out; omega) ?_; (case aR => exact zS hC1.out); (case aO => (with_reducible repeat (first | apply zF | apply zG | apply zH)); exact HO.out); (case aB => exact zQ HB.out); (case aS => exact kP (zQ HB.out)); intro v6 w6 ho hb hg_ hat; have HO' := zA ho; have HB' := zA hb; clear ho hb hg_ hat))
     go_roundg (l0.length - (kk + 1))
     case measure => omega
     case rel => exact ⟨kk + 1, by omega, by omega, by go_num, ⟨by rw [S1.out]; exact HO'.out⟩, HB'⟩
    have hltz : ¬ (kk : Int) < (l0.length : Int) := by omega
    have : kk = l0.length := by omega
    subst this
    go_wp2
    go_ret
    refine ⟨_, rfl, ?_, HB.out⟩
    have := HO.out
    rw [List.take_length] at this
    exact this
 rw [if_neg hT] at h
 cases h

/-! ### slices_Index_int64_int64: function 191 -/
def slices_Index_int64_int64.l0 : Nat → List Int → Int → Int → Int → Option (Int)
 | 0, _, _, _, _ => none
 | k + 1, x0, x1, x7, x8 => if x8 < x7 then (if 0 ≤ x8 then (if x8 < (x0.length : Int) then (if x1 = (rd x0 x8) then (some x8) else (slices_Index_int64_int64.l0 k x0 x1 x7 (wrap64 (x8 + 1)))) else (none)) else (none)) else (some (-1))
def slices_Index_int64_int64.f (k : Nat) (l0 : List Int) (a1 : Int) : Option (Int) := slices_Index_int64_int64.l0 k l0 a1 (l0.length : Int) 0

set_option maxHeartbeats 8000000 in
set_option maxRecDepth 100000 in
theorem slices_Index_int64_int64.calls (k : Nat) (A0 : Option Addr) (c0 : Nat) (l0 : List Int) (a1 : Int) (r : Int) (w : World) (hr0 : Kd.C (Kd.int .i64) w A0 l0.length l0) (hc0 : l0.length ≤ c0) (h : slices_Index_int64_int64.f k l0 a1 = some r) :
  Calls Tryd.prog 191 #[.slice A0 l0.length c0, .int .i64 a1] w fun e w' => e = .returned (.int .i64 r) ∧ Drawn0 w w' := by
 have HR0 := zA hr0
 have HC0 := zA hc0
 clear hr0 hc0
 have H := h
 unfold slices_Index_int64_int64.f at H
 clear h
 have H' := zA H
 clear H
 go_enter Tryd.func191, Tryd.ntmps191
 go_wp2
 go_loopg [8] k (fun kq v8 w' => ∃ (x8_1 : Int), v8 = .int .i64 x8_1 ∧ Aside0 (slices_Index_int64_int64.l0 kq l0 a1 (l0.length : Int) x8_1 = some r) ∧ Aside0 (kq ≤ k) ∧ Drawn0 w w')
 case atStart => exact ⟨(0), zs, H', ⟨Nat.le_refl _⟩, by repeat (first | exact Drawn0.refl _ | apply Drawn0.step)⟩
 case round =>
  clear H'
  try clear c1
  obtain ⟨x8_1, rfl, HA, HK1, ⟨m1, rfl⟩⟩ := hrel
  cases gk with
  | zero => exact absurd HA.out (by simp [slices_Index_int64_int64.l0])
  | succ k1 =>
   have H := HA.out
   clear HA
   simp only [slices_Index_int64_int64.l0] at H
   by_cases c3 : x8_1 < (l0.length : Int)
   ·rw [if_pos c3] at H
    have c3b0 : decide (x8_1 < (l0.length : Int)) = true := decide_eq_true c3
    clear c3
    by_cases c4 : 0 ≤ x8_1
    ·rw [if_pos c4] at H
     have c4b0 : decide (0 ≤ x8_1) = true := decide_eq_true c4
     clear c4
     by_cases c5 : x8_1 < (l0.length : Int)
     ·rw [if_pos c5] at H
      have c5b0 : decide (x8_1 < (l0.length : Int)) = true := decide_eq_true c5
      clear c5
      by_cases c6 : a1 = (rd l0 x8_1)
      ·rw [if_pos c6] at H
       obtain ⟨c6b0, c6b1⟩ := zT1 c6
       clear c6
       obtain rfl := Option.some.inj H
       have p252 : 0 ≤ (x8_1 : Int) := zd
       have q252 : x8_1 < (l0.length : Int) := zd
       obtain ⟨ad252, e252, hx252_0⟩ := Kd.at_int HR0.out x8_1 p252 q252
       cases e252
       replace p252 := eq_true p252
       replace q252 := eq_true q252
       go_wp2
       go_ret
       exact ⟨zs, by repeat (first | exact Drawn0.refl _ | apply Drawn0.step)⟩
      rw [if_neg c6] at H
      obtain ⟨c6b0, c6b1⟩ := zT2 c6
      have H' := zA H
      clear H
      have p252 : 0 ≤ (x8_1 : Int) := zd
      have q252 : x8_1 < (l0.length : Int) := zd
      obtain ⟨ad252, e252, hx252_0⟩ := Kd.at_int HR0.out x8_1 p252 q252
      cases e252
      replace p252 := eq_true p252
      replace q252 := eq_true q252
      go_wp2
      go_roundg k1
      case measure => have := HK1.out; omega
      case rel => exact ⟨(wrap64 (x8_1 + 1)), zs, H', ⟨by have := HK1.out; omega⟩, by repeat (first | exact Drawn0.refl _ | apply Drawn0.step)⟩
     rw [if_neg c5] at H
     exact absurd H (by simp)
    rw [if_neg c4] at H
    exact absurd H (by simp)
   rw [if_neg c3] at H
   have c3b0 : decide (x8_1 < (l0.length : Int)) = false := decide_eq_false c3
   clear c3
   obtain rfl := Option.some.inj H
   go_wp2
   go_ret
   exact ⟨zs, by repeat (first | exact Drawn0.refl _ | apply Drawn0.step)⟩

/-! ### impl_withoutFirst: function 158 -/
def slices_Index_int64_int64_BwithoutFirst.f (k : Nat) (l0 : List Int) (a1 : Int) : Option (Int) := slices_Index_int64_int64.f k l0 a1
theorem slices_Index_int64_int64_BwithoutFirst.calls (k : Nat) (A0 : Option Addr) (c0 : Nat) (l0 : List Int) (a1 : Int) (r : Int) (w : World) (hr0 : Kd.C (Kd.int .i64) w A0 l0.length l0) (hc0 : l0.length ≤ c0) (h : slices_Index_int64_int64_BwithoutFirst.f k l0 a1 = some r) :
 Calls Tryd.prog 191 #[.slice A0 l0.length c0, .int .i64 a1] w fun e w' => e = .returned (.int .i64 r) ∧ Below w.heap.size w w' := by
 refine (slices_Index_int64_int64.calls k A0 c0 l0 a1 r w hr0 hc0 h).mono ?_
 rintro e w' ⟨h1, h2⟩
 exact ⟨h1, Drawn0.below h2⟩
def impl_withoutFirst.f (k : Nat) (l0 : List Int) (a1 : Int) : Option (List Int) := (slices_Index_int64_int64_BwithoutFirst.f k l0 a1).bind fun t253 => (if 0 ≤ t253 then (if t253 ≤ (l0.length : Int) then (if 0 ≤ (wrap64 (t253 + 1)) then (if (wrap64 (t253 + 1)) ≤ (l0.length : Int) then ((slices_Concat_int64_int64.f (([(l0.take (t253 : Int).toNat), (l0.drop ((wrap64 (t253 + 1)) : Int).toNat)] : List (List Int)))).bind fun t267 => (some t267)) else (none)) else (none)) else (none)) else (none))

def impl_withoutFirst.T2 : Bool × List (List Nat × List Nat) := (true, [([], []), ([], []), ([0, 1], [0, 1]), ([], []), ([], []), ([4], [4]), ([3, 5], [3, 5]), ([2, 6], [2, 6]), ([7], [7]), ([8, 8, 0, 1, 2, 3, 4, 5, 6, 7, 8], [8])])
def impl_withoutFirst.B2 : List Nat := [0, 0, 3, 0, 0, 16, 56, 127, 255, 511]
theorem impl_withoutFirst.tab2 : rtab .any (opsOf Tryd.f158 2) = impl_withoutFirst.T2 := by kernel_rfl
theorem impl_withoutFirst.bits2 : waitsOk impl_withoutFirst.T2.2 impl_withoutFirst.B2 = true := by kernel_rfl
set_option maxHeartbeats 8000000 in
set_option maxRecDepth 100000 in
theorem impl_withoutFirst.calls (k : Nat) (P0_ : Nat → Prop) (A0 : Option Addr) (c0 : Nat) (l0 : List Int) (a1 : Int) (r : List Int) (w : World) (hs0 : Kd.V (Kd.int .i64) 2 w w.heap.size (fun k_ => P0_ k_) (.slice A0 l0.length c0) l0) (h : impl_withoutFirst.f k l0 a1 = some r) :
  Calls Tryd.prog 158 #[.slice A0 l0.length c0, .int .i64 a1] w fun e w' => ∃ v0_ : Value, e = .returned (v0_) ∧ Kd.R (Kd.int .i64) 2 w' w.heap.size (fun k_ => (w.heap.size ≤ k_)) v0_ r ∧ Below w.heap.size w w' := by
 have HO0 := zA (show Kd.V (Kd.int .i64) 2 w w.heap.size (fun k_ => (P0_ k_ ∨ w.heap.size ≤ k_)) (.slice A0 l0.length c0) l0 from kN hs0 (fun k_ hk => .inl hk))
 have HB := zA (kW w.heap.size w)
 have H := h
 unfold impl_withoutFirst.f at H
 clear h
 obtain ⟨t253, A3, H⟩ := zb H
 try dsimp only at H
 by_cases c4 : 0 ≤ t253
 ·rw [if_pos c4] at H
  have c4b0 := eq_true c4
  have c4b1 : decide (0 ≤ t253) = true := decide_eq_true c4
  clear c4
  by_cases c5 : t253 ≤ (l0.length : Int)
  ·rw [if_pos c5] at H
   have c5b0 := eq_true c5
   have c5b1 : decide (t253 ≤ (l0.length : Int)) = true := decide_eq_true c5
   clear c5
   obtain ⟨y254, hy254⟩ : ∃ y_ : List Int, y_ = (l0.take (t253 : Int).toNat) := ⟨_, rfl⟩
   replace H : (if 0 ≤ (wrap64 (t253 + 1)) then (if (wrap64 (t253 + 1)) ≤ (l0.length : Int) then ((slices_Concat_int64_int64.f (([y254, (l0.drop ((wrap64 (t253 + 1)) : Int).toNat)] : List (List Int)))).bind fun t267 => (some t267)) else (none)) else (none)) = some r := zy hy254 H
   have Ny254 := zA hy254
   clear hy254
   obtain ⟨ji6, hji6⟩ : ∃ j_ : Int, (wrap64 (t253 + 1)) = j_ := ⟨_, rfl⟩
   replace H : (if 0 ≤ (ji6) then (if (ji6) ≤ (l0.length : Int) then ((slices_Concat_int64_int64.f (([y254, (l0.drop ((ji6) : Int).toNat)] : List (List Int)))).bind fun t267 => (some t267)) else (none)) else (none)) = some r := by first | (rw [hji6] at H; exact H) | (simp only [hji6] at H ⊢; exact H)
   (try rw [hji6] at A3)
   have hji6w : (IntKind.i64.wrap (t253 + 1)) = ji6 := (i64_w _).trans hji6
   by_cases c7 : 0 ≤ (ji6)
   ·rw [if_pos c7] at H
    have c7b0 := eq_true c7
    have c7b1 : decide (0 ≤ (ji6)) = true := decide_eq_true c7
    clear c7
    by_cases c8 : (ji6) ≤ (l0.length : Int)
    ·rw [if_pos c8] at H
     have c8b0 := eq_true c8
     have c8b1 : decide ((ji6) ≤ (l0.length : Int)) = true := decide_eq_true c8
     clear c8
     obtain ⟨y259, hy259⟩ : ∃ y_ : List Int, y_ = (l0.drop ((ji6) : Int).toNat) := ⟨_, rfl⟩
     replace H : ((slices_Concat_int64_int64.f (([y254, y259] : List (List Int)))).bind fun t267 => (some t267)) = some r := zy hy259 H
     have Ny259 := zA hy259
     clear hy259
     obtain ⟨y264, hy264⟩ : ∃ y_ : List (List Int), y_ = (([y254, y259] : List (List Int))) := ⟨_, rfl⟩
     replace H : ((slices_Concat_int64_int64.f y264).bind fun t267 => (some t267)) = some r := zy hy264 H
     have Ny264 := zA hy264
     clear hy264
     obtain ⟨t267, A9, H⟩ := zb H
     try dsimp only at H
     obtain rfl := Option.some.inj H
     go_enter Tryd.func158, Tryd.ntmps158
     try go_wp2_with (first | (refine zO (some 8) Tryd.func191 #[.slice A0 l0.length c0, .int .i64 a1] ?_; (with_reducible refine (slices_Index_int64_int64_BwithoutFirst.calls k _ _ l0 a1 t253 _ ?side1 ?side2 A3.out).mono ?_); (case side1 => exact zS (kJ HO0.out).2.2); (case side2 => exact (kJ HO0.out).2.1); rintro e w10 ⟨rfl, hb⟩; refine ⟨_, rfl, ?_⟩; replace HO0 := zA (kG (zPV HO0.out) hb); replace HB := zA (kQ (zQ HB.out) hb); (try clear hb)))
     replace HO0 := zA (Kd.V_drew HO0.out)
     replace HB := zA (zD HB.out)
     have q12 : (t253 : Int) ≤ ((l0.length : Int) : Int) := zd
     obtain ⟨i012, hi012, _, hsz12, _⟩ := info_parts info2
     have hroom12 : l0.length ≤ c0 := (kJ HO0.out).2.1
     have hC12 : Kd.F (Kd.int .i64) _ _ A0 l0.length l0 := (Kd.V_at (base := w.heap.size) HO0.out).2.2
     have hcut12 := cut_to (P := Tryd.prog) 22 2 .i64 Tryd.underlying22 hi012 A0 l0.length c0 t253 (zd) q12 hroom12
     have hr12 := Kd.F_take (m := (t253 : Int).toNat) hC12 (by omega)
     have hy12 : y254.length = (t253 : Int).toNat := (by rw [Ny254.out, List.length_take]; omega)
     rw [← Ny254.out] at hr12
     rw [← hy12] at hcut12
     have HO258 := zA (show Kd.V (Kd.int .i64) 2 _ w.heap.size _ (.slice A0 y254.length c0) y254 from Kd.V_mk (by omega) hr12)
     have HC258 := zA (show y254.length ≤ c0 from by omega)
     clear hr12 hC12 hroom12 hi012 hsz12
     have KY12 := zA hy12
     clear hy12
     replace q12 := eq_true q12
     have q13 : ((ji6) : Int) ≤ ((l0.length : Int) : Int) := zd
     obtain ⟨i013, hi013, _, hsz13, _⟩ := info_parts info2
     have hroom13 : l0.length ≤ c0 := (kJ HO0.out).2.1
     have hC13 : Kd.F (Kd.int .i64) _ _ A0 l0.length l0 := (Kd.V_at (base := w.heap.size) HO0.out).2.2
     have q013 : (0 : Int) ≤ ((ji6) : Int) := zd
     have hcut13 := cut_from (P := Tryd.prog) 22 2 .i64 Tryd.underlying22 hi013 1 hsz13 A0 l0.length c0 (ji6) q013 q13
     have hr13 := Kd.F_cut (m := ((ji6) : Int).toNat) (c := c0) hC13 (by omega) hroom13
     obtain ⟨A13, hA13⟩ : ∃ A1, A1 = (if c0 = ((ji6) : Int).toNat then A0 else (A0 : Option Addr).map (·.add (((ji6) : Int).toNat * 1))) := ⟨_, rfl⟩
     obtain ⟨c13, hc13⟩ : ∃ c1, c1 = c0 - ((ji6) : Int).toNat := ⟨_, rfl⟩
     have hy13 : y259.length = l0.length - ((ji6) : Int).toNat := (by rw [Ny259.out, List.length_drop] <;> omega)
     rw [show (l0).drop ((ji6) : Int).toNat = y259 from Ny259.out.symm] at hr13
     replace hr13 : Kd.F (Kd.int .i64) _ _ A13 y259.length y259 := (by rw [hA13]; exact hr13)
     rw [← hy13, ← hA13, ← hc13] at hcut13
     have HO263 := zA (show Kd.V (Kd.int .i64) 2 _ w.heap.size _ (.slice A13 y259.length c13) y259 from Kd.V_mk (by rw [hy13, hc13]; exact Nat.sub_le_sub_right hroom13 _) hr13)
     have HC263 := zA (show y259.length ≤ c13 from by rw [hy13, hc13]; exact Nat.sub_le_sub_right hroom13 _)
     clear hr13 hC13 hroom13 hi013 hsz13 hc13
     have KY13 := zA hy13
     have KA13 := zA hA13
     clear hy13 hA13
     replace q13 := eq_true q13
     refine start_ (n := 10) (S := fun w' => True) (ds := []) #[false, false, false, false, false, false, false, false, false, false] (by kernel_rfl) rfl rfl trivial (fun hHeld => ?_); refine with_tabW impl_withoutFirst.tab2 impl_withoutFirst.bits2 (fun HT_ HW_ => ?_)
     generalize w10.drew = w11 at HO0 HB HO258 HO263 hHeld ⊢
     refine zp 0 (some 9) #[true, false, false, false, false, false, false, false, false, false] HT_.out ?_
     refine zp 1 (some 10) #[true, true, false, false, false, false, false, false, false, false] HT_.out ?_
     refine zp 2 (some 11) #[true, true, true, false, false, false, false, false, false, false] HT_.out ?_
     refine zp 3 (some 12) #[true, true, true, true, false, false, false, false, false, false] HT_.out ?_
     refine zp 4 (some 13) #[true, true, true, true, true, false, false, false, false, false] HT_.out ?_
     refine zp 5 (some 14) #[true, true, true, true, true, true, false, false, false, false] HT_.out ?_
     refine zp 6 (some 15) #[true, true, true, true, true, true, true, false, false, false] HT_.out ?_
     refine one_ (i := 7) (N := some 16) #[true, true, true, true, true, true, true, true, false, false] rfl rfl (one_of HT_.out (by kernel_rfl)) (by decide) (fun K hK => ?_)
     refine Kd.N_lit_step (Kd.slice 2 (Kd.int .i64)) _ 22 ?hg (N' := 16) ?hd (xs := ([y254, y259] : List (List Int))) (inner := [.slice A0 y254.length c0, .slice A13 y259.length c13]) (ok := (fun k_ => (P0_ k_ ∨ w.heap.size ≤ k_))) (okp := (fun k_ => (P0_ k_ ∨ w.heap.size ≤ k_))) ?hr ?hp (fun _ hk => hk) ((show ∀ k_ : Nat, (_ : Nat) ≤ k_ → (fun k_ => (P0_ k_ ∨ w.heap.size ≤ k_)) k_ from fun k_ hk => (.inr (Nat.le_trans (kP (zQ HB.out)) hk))) _ (Nat.le_refl _)) (kW _ _) (Nat.le_refl _) (by simp) ?_; (case hd => rfl); (case hg => rfl); (case hr => first | (go_simp; done) | (go_simp; rfl)); (case hp => exact (Reps.one (show Kd.FK (Kd.slice 2 (Kd.int .i64)) _ _ y254 [.slice A0 y254.length c0] from (zFK (kN (ok' := (fun k_ => (P0_ k_ ∨ w.heap.size ≤ k_))) (HO258.out) (fun k_ hk => hk)))) (Reps.one (show Kd.FK (Kd.slice 2 (Kd.int .i64)) _ _ y259 [.slice A13 y259.length c13] from (zFK (kN (ok' := (fun k_ => (P0_ k_ ∨ w.heap.size ≤ k_))) (HO263.out) (fun k_ hk => hk)))) (Reps.none _ _))))
     intro v265 w14 ho15 hb hg_ hnew_
     clear hg_ hnew_
     (first | rw [← Ny264.out] at ho15 | (simp only [Int.reduceToNat] at ho15; rw [← Ny264.out] at ho15))
     replace HO0 := zA (kK (zPV HO0.out) (Kd.N_base ho15) hb)
     replace HO258 := zA (kK (zPV HO258.out) (Kd.N_base ho15) hb)
     replace HO263 := zA (kK (zPV HO263.out) (Kd.N_base ho15) hb)
     have HO266 := zA (jN ho15 (kP (zQ HB.out)))
     replace HB := zA (kQ (zQ HB.out) hb)
     clear hb ho15
     obtain ⟨Ao16, co16, eo16⟩ := Kd.N_slice HO266.out
     (first | subst eo16 | (injection eo16 with f1_ f2_ f3_; have f4_ := f1_.symm; have f5_ := f3_.symm; clear f1_ f2_ f3_; subst f4_; subst f5_))
     refine hK.out _ _ trivial (fun hHeld => ?_)
     clear hK K
     refine norm_ (a' := ?_) ?_ ?_
     rotate_left
     ·show Act.put _ (some 16) _ = _
      simp only [Act.put, zL, zM, zN, i64_w, i32_w]
      rfl
     refine one_ (i := 8) (N := some 17) #[true, true, true, true, true, true, true, true, true, false] rfl rfl (one_of HT_.out (by kernel_rfl)) (by decide) (fun K hK => ?_)
     refine goes_ Tryd.func85 (by kernel_rfl) rfl #[.slice Ao16 y264.length co16] (by rfl) rfl rfl zg ?_
     with_reducible refine (slices_Concat_int64_int64.calls _ _ y264 t267 _ ?side1 ?side2 A9.out).mono ?_
     (case side1 => exact zS (Kd.N_reads' HO266.out).2.2)
     (case side2 => exact (Kd.N_reads' HO266.out).2.1)
     rintro e w17 ⟨v268, rfl, ho0, hb⟩
     refine ⟨_, rfl, ?_⟩
     replace HO0 := zA (kK (zPV HO0.out) (kC ho0) hb)
     replace HO258 := zA (kK (zPV HO258.out) (kC ho0) hb)
     replace HO263 := zA (kK (zPV HO263.out) (kC ho0) hb)
     replace HO266 := zA (Kd.N_elder' (zPN HO266.out) (kC ho0) hb)
     have HO269 := zA (kI (Kd.R_newM (M := fun k_ => (w.heap.size ≤ k_)) ho0 (kP (zQ HB.out)) (fun k_ h_ => h_)) (kP (zQ HB.out)))
     replace HB := zA (kQ (zQ HB.out) hb)
     (try clear hb)
     (try clear hb2)
     (try clear hk)
     (try clear hi)
     (try clear hgw)
     (try clear ho0)
     refine hK.out _ _ trivial (fun hHeld => ?_)
     clear hK K
     refine norm_ (a' := ?_) ?_ ?_
     rotate_left
     ·show Act.put _ (some 17) _ = _
      simp only [Act.put, zL, zM, zN, i64_w, i32_w]
      rfl
     refine zp 9 (some 4) #[true, true, true, true, true, true, true, true, true, true] HT_.out ?_
     refine done_ (done_of HT_.out (by kernel_rfl)) ?_
     try go_wp2
     go_ret
     exact ⟨_, by first | rfl | (simp [errW_none, errW_some] <;> rfl) | (simp only [← hji6]; first | rfl | (simp [errW_none, errW_some] <;> rfl)) | (simp [*, errW_none, errW_some] <;> rfl), by (with_reducible repeat (first | apply zF | apply zG | apply zH)); exact kA HO269.out (fun _ hk => hk.1), zQ HB.out⟩
    rw [if_neg c8] at H
    exact absurd H (by simp)
   rw [if_neg c7] at H
   exact absurd H (by simp)
  rw [if_neg c5] at H
  exact absurd H (by simp)
 rw [if_neg c4] at H
 exact absurd H (by simp)

/-! ### impl_contentKey: function 188 -/
def impl_contentKey.l0 : Nat → Int → List Int → Int → Int → Option (Int)
 | 0, _, _, _, _ => none
 | k + 1, x3, x6, x7, x8 => if x8 < x7 then (if 0 ≤ x8 then (if x8 < (x6.length : Int) then ((impl_one.f (wrap64 (5 * (rd x6 x8)))).bind fun t271 => (impl_contentKey.l0 k (wrap64 (x3 + t271)) x6 x7 (wrap64 (x8 + 1)))) else (none)) else (none)) else (some x3)
def impl_contentKey.f (k : Nat) (l0 : List Int) : Option (Int) := impl_contentKey.l0 k 0 l0 (l0.length : Int) 0

set_option maxHeartbeats 8000000 in
set_option maxRecDepth 100000 in
theorem impl_contentKey.calls (k : Nat) (A0 : Option Addr) (c0 : Nat) (l0 : List Int) (r : Int) (w : World) (hr0 : Kd.C (Kd.int .i64) w A0 l0.length l0) (hc0 : l0.length ≤ c0) (h : impl_contentKey.f k l0 = some r) :
  Calls Tryd.prog 188 #[.slice A0 l0.length c0] w fun e w' => e = .returned (.int .i64 r) ∧ Drawn0 w w' := by
 have HR0 := zA hr0
 have HC0 := zA hc0
 clear hr0 hc0
 have H := h
 unfold impl_contentKey.f at H
 clear h
 have H' := zA H
 clear H
 go_enter Tryd.func188, Tryd.ntmps188
 go_wp2
 go_loopg [3, 8] k (fun kq v3 v8 w' => ∃ (x3_1 : Int) (x8_1 : Int), v3 = .int .i64 x3_1 ∧ v8 = .int .i64 x8_1 ∧ Aside0 (impl_contentKey.l0 kq x3_1 l0 (l0.length : Int) x8_1 = some r) ∧ Aside0 (kq ≤ k) ∧ Drawn0 w w')
 case atStart => exact ⟨(0), (0), zs, zs, H', ⟨Nat.le_refl _⟩, by repeat (first | exact Drawn0.refl _ | apply Drawn0.step)⟩
 case round =>
  clear H'
  try clear c1
  obtain ⟨x3_1, x8_1, rfl, rfl, HA, HK1, ⟨m1, rfl⟩⟩ := hrel
  cases gk with
  | zero => exact absurd HA.out (by simp [impl_contentKey.l0])
  | succ k1 =>
   have H := HA.out
   clear HA
   simp only [impl_contentKey.l0] at H
   by_cases c2 : x8_1 < (l0.length : Int)
   ·rw [if_pos c2] at H
    have c2b0 : decide (x8_1 < (l0.length : Int)) = true := decide_eq_true c2
    clear c2
    by_cases c3 : 0 ≤ x8_1
    ·rw [if_pos c3] at H
     have c3b0 : decide (0 ≤ x8_1) = true := decide_eq_true c3
     clear c3
     by_cases c4 : x8_1 < (l0.length : Int)
     ·rw [if_pos c4] at H
      have c4b0 : decide (x8_1 < (l0.length : Int)) = true := decide_eq_true c4
      clear c4
      obtain ⟨t271, A5, H⟩ := zb H
      try dsimp only at H
      have H' := zA H
      clear H
      have p270 : 0 ≤ (x8_1 : Int) := zd
      have q270 : x8_1 < (l0.length : Int) := zd
      obtain ⟨ad270, e270, hx270_0⟩ := Kd.at_int HR0.out x8_1 p270 q270
      cases e270
      replace p270 := eq_true p270
      replace q270 := eq_true q270
      go_wp2_with (first | (refine zO (some 15) Tryd.func118 #[.int .i64 (wrap64 (5 * (rd l0 x8_1)))] ?_; (with_reducible refine (impl_one.calls (wrap64 (5 * (rd l0 x8_1))) t271 _ A5.out).mono ?_); rintro e w' ⟨rfl, ⟨nd, rfl⟩⟩; refine ⟨_, rfl, ?_⟩))
      go_roundg k1
      case measure => have := HK1.out; omega
      case rel => exact ⟨(wrap64 (x3_1 + t271)), (wrap64 (x8_1 + 1)), zs, zs, H', ⟨by have := HK1.out; omega⟩, by repeat (first | exact Drawn0.refl _ | apply Drawn0.step)⟩
     rw [if_neg c4] at H
     exact absurd H (by simp)
    rw [if_neg c3] at H
    exact absurd H (by simp)
   rw [if_neg c2] at H
   have c2b0 : decide (x8_1 < (l0.length : Int)) = false := decide_eq_false c2
   clear c2
   obtain rfl := Option.some.inj H
   go_wp2
   go_ret
   exact ⟨zs, by repeat (first | exact Drawn0.refl _ | apply Drawn0.step)⟩

/-! ### impl_ties_countPrefixes: function 140: a contract of our own -/
def impl_ties_countPrefixes.l2 : Nat → List Int → List Int → List Int → Int → List Int → List (List Int) → Option (List Int × List (List Int))
 | 0, _, _, _, _, _, _ => none
 | k + 1, w, rest, ms, i, S, nx => if i < (ms.length : Int) then (if 0 ≤ i then ((impl_withoutFirst.f k rest (rd ms i)).bind fun less => ((impl_contentKey.f k w).bind fun kw => ((impl_contentKey.f k less).bind fun kl => (if wrap64 (kw - kl) ∈ S then impl_ties_countPrefixes.l2 k w rest ms (wrap64 (i + 1)) S nx else (if nx.length < 1000000000 ∧ S.length < 1000000000 then impl_ties_countPrefixes.l2 k w rest ms (wrap64 (i + 1)) (wrap64 (kw - kl) :: S) (nx ++ [less]) else none))))) else none) else some (S, nx)
def impl_ties_countPrefixes.l1 : Nat → List Int → List Int → List (List Int) → Int → List Int → List (List Int) → Option (List Int × List (List Int))
 | 0, _, _, _, _, _, _ => none
 | k + 1, D, w, layer, i, S, nx => if i < (layer.length : Int) then (if 0 ≤ i then ((impl_ties_firsts.f k D (layer.getD i.toNat [])).bind fun m => ((impl_members.f k m).bind fun ms => ((impl_ties_countPrefixes.l2 k w (layer.getD i.toNat []) ms 0 S nx).bind fun bt => impl_ties_countPrefixes.l1 k D w layer (wrap64 (i + 1)) bt.1 bt.2))) else none) else some (S, nx)
def impl_ties_countPrefixes.l0 : Nat → List Int → List Int → Int → List Int → List (List Int) → Option Int
 | 0, _, _, _, _, _ => none
 | k + 1, D, w, limit, S, layer => if (layer.length : Int) > 0 ∧ (S.length : Int) ≤ limit then ((impl_ties_countPrefixes.l1 k D w layer 0 S []).bind fun bt => impl_ties_countPrefixes.l0 k D w limit bt.1 bt.2) else some (min (S.length : Int) (wrap64 (limit + 1)))
def impl_ties_countPrefixes.f (k : Nat) (D : List Int) (w : List Int) (limit : Int) : Option Int := impl_ties_countPrefixes.l0 k D w limit [0] [w]
/-- seen keys as a map: what is there is true -/
def MapB (w : World) (b : Nat) (s : List Int) : Prop := MapW Tryd.prog 2 4 (Lit.int .i64) Lit.bool false (fun a => (Lit.int .i64 a).wf = true) w b s.length (fun a => decide (a ∈ s)) (fun a => decide (a ∈ s))
theorem MapB_put {w : World} {b : Nat} {s : List Int} {a : Int} (hn : a ∉ s) (h : MapW Tryd.prog 2 4 (Lit.int .i64) Lit.bool false (fun a => (Lit.int .i64 a).wf = true) w b (if (decide (a ∈ s)) = true then s.length else s.length + 1) (fun c => if c = a then true else decide (c ∈ s)) (fun c => if c = a then true else decide (c ∈ s))) : MapB w b (a :: s) := by
 rw [if_neg (by simpa using hn)] at h
 have e : (fun c => if c = a then true else decide (c ∈ s)) = fun c => decide (c ∈ a :: s) := funext fun c => by
  by_cases g : c = a
  ·simp [g]
  simp [g]
 rw [e] at h
 exact h
theorem MapB_first {w : World} {b : Nat} (h : MapW Tryd.prog 2 4 (Lit.int .i64) Lit.bool false (fun a => (Lit.int .i64 a).wf = true) w b (if (fun (_ : Int) => false) (0 : Int) then 0 else 0 + 1) (fun c => if c = 0 then true else (fun (_ : Int) => false) c) (fun c => if c = 0 then true else (fun (_ : Int) => false) c)) : MapB w b [0] := by
 have e : (fun c : Int => if c = 0 then true else (fun (_ : Int) => false) c) = fun c => decide (c ∈ [(0 : Int)]) := funext fun c => by
  by_cases g : c = 0
  ·simp [g]
  simp [g]
 rw [e] at h
 exact h
theorem wpList_mw_insB {κ ε : Type} {P : Program} {k e : TypeId} {kf : κ → Lit} {ef : ε → Lit} {z : ε} {ok : κ → Prop} {w : World} {b n : Nat} {S : κ → Bool} {F : κ → ε} {ops : Array Oper} {rest : List Oper} {o : Oper} {A : Act} {Q : Exit → Act → World → Prop} [DecidableEq κ] (hg : o.guard = none) (m x v : Operand) (t : TypeId) (hop : o.op = Op.insert t m x v) (K : Go.Maps.Keyed P k) (hinj : ∀ a c, kf a = kf c → a = c) (hkl : ∀ a, WideAt.IsKeyLit (kf a)) (ht : P.underlying t = some (.map k e))
  (h : MapW P k e kf ef z ok w b n S F) (hn : n < maxLen) (hm : A.eval m = .map (some b)) (a : κ) (ha : ok a) (key val : Value) (hx : A.eval x = key) (hv : A.eval v = val) (hkey : keyOf P k key = some (kf a)) (y : ε) (hval : plainElem (H := Unit) P e val = some (.lit (ef y), []))
  (hK : ∀ w', MapW P k e kf ef z ok w' b (if S a then n else n + 1) (fun c => if c = a then true else S c) (fun c => if c = a then y else F c) → w.grownBy w' (some b) → wpList P ops Q rest (A.put o.dst undef) w') : wpList P ops Q (o :: rest) A w := by
 refine wpList_plain hg fun K' hK' => ?_
 obtain ⟨w', hrun, r1, r2⟩ := h.put K hinj hkl ht hn a y ha hkey hval
 unfold Oper.wp
 simp [execOp, hop, hm, hx, hv, hrun, Result.andThen]
 exact hK' _ _ (hK w' r1 r2)
theorem MapB_len {w : World} {b : Nat} {s : List Int} (h : MapB w b s) (ty : TypeId) : (Builtin.len_ #[147] ty #[.map (some b)]).run Tryd.prog w = .ok (.int .i64 s.length) w := by
 obtain ⟨D, h1, h2, h3, h4, h5⟩ := h
 rw [h1.len Tryd.underlying147 ty, h5]
theorem R_over_mapB {w w1 : World} {base b e : Nat} {ok : Nat → Prop} {v : Value} {xs : List Int} {s : List Int} (h : Kd.R (Kd.int .i64) e w base ok v xs) (hm : MapB w b s) (hg : w.grownBy w1 (some b)) : Kd.R (Kd.int .i64) e w1 base ok v xs :=
 Kd.R_grown1 h rfl hg (fun e => by
  obtain ⟨cells, hc⟩ := Kd.R_typed h b e.symm
  exact hm.ne_cells hc rfl)
theorem R_drawnB {w w1 : World} {base e : Nat} {ok : Nat → Prop} {v : Value} {xs : List Int} (h : Kd.R (Kd.int .i64) e w base ok v xs) (hd : Drawn0 w w1) : Kd.R (Kd.int .i64) e w1 base ok v xs := by
 obtain ⟨n, rfl⟩ := hd
 exact kL h (zC (kW _ _) n)
theorem zero_boolD (w : World) : (zeroValue 4).run Tryd.prog w = .ok (.bool false) w := by kernel_rfl
theorem litint_injB (a c : Int) (h : Lit.int .i64 a = Lit.int .i64 c) : a = c := by simpa using h
/-- what holds in the two inner loops: the map (block b), the rows of the next layer (made since N0), the layer that is read -/
def CpI (w : World) (b N0 : Nat) (vL : Value) (layer : List (List Int)) (W : World) (s : List Int) (v : Value) (x : List (List Int)) : Prop :=
 MapB W b s ∧ Kd.N (Kd.slice 2 (Kd.int .i64)) 22 W N0 (fun k_ => k_ ≠ b) v x ∧ Kd.V (Kd.slice 2 (Kd.int .i64)) 22 W 0 (fun k_ => k_ ≠ b ∧ k_ < N0) vL layer ∧ Below w.heap.size w W ∧ N0 ≤ W.heap.size
theorem CpI.below {w : World} {b N0 : Nat} {vL : Value} {layer : List (List Int)} {W w1 : World} {s : List Int} {v : Value} {x : List (List Int)} (h : CpI w b N0 vL layer W s v x) (hb : Below W.heap.size W w1) : CpI w b N0 vL layer w1 s v x :=
 ⟨MapW.below h.1 hb, kZ h.2.1 hb, kG h.2.2.1 hb, Below.grown h.2.2.2.1 (grown_of_below hb none) h.2.2.2.1.size (fun j hj => by cases hj), Nat.le_trans h.2.2.2.2 hb.size⟩
theorem CpI.drawn {w : World} {b N0 : Nat} {vL : Value} {layer : List (List Int)} {W w1 : World} {s : List Int} {v : Value} {x : List (List Int)} (h : CpI w b N0 vL layer W s v x) (hd : Drawn0 W w1) : CpI w b N0 vL layer w1 s v x := by
 obtain ⟨n, rfl⟩ := hd
 exact h.below (zC (kW _ _) n)
/-- and in the innermost loop: the letters, and the word that is left -/
def CpJ (w : World) (b N0 : Nat) (vL : Value) (layer : List (List Int)) (Nm : Nat) (vm : Value) (ms : List Int) (vr : Value) (rest : List Int) (W : World) (s : List Int) (v : Value) (x : List (List Int)) : Prop :=
 CpI w b N0 vL layer W s v x ∧ Kd.R (Kd.int .i64) 2 W Nm (fun _ => True) vm ms ∧ Kd.V (Kd.int .i64) 2 W 0 (fun k_ => k_ ≠ b ∧ k_ < N0) vr rest
section
variable {w : World} {b N0 : Nat} {vL : Value} {layer : List (List Int)} {Nm : Nat} {vm : Value} {ms : List Int} {vr : Value} {rest : List Int} {W w1 : World} {s : List Int} {v : Value} {x : List (List Int)}
theorem CpJ.below (h : CpJ w b N0 vL layer Nm vm ms vr rest W s v x) (hb : Below W.heap.size W w1) : CpJ w b N0 vL layer Nm vm ms vr rest w1 s v x :=
 ⟨h.1.below hb, kL h.2.1 hb, kG h.2.2 hb⟩
theorem CpJ.drawn (h : CpJ w b N0 vL layer Nm vm ms vr rest W s v x) (hd : Drawn0 W w1) : CpJ w b N0 vL layer Nm vm ms vr rest w1 s v x := by
 obtain ⟨n, rfl⟩ := hd
 exact h.below (zC (kW _ _) n)
theorem CpJ.put (h : CpJ w b N0 vL layer Nm vm ms vr rest W s v x) (hwb : w.heap.size ≤ b) {a : Int} (hm : MapB w1 b (a :: s)) (hg : W.grownBy w1 (some b)) : CpJ w b N0 vL layer Nm vm ms vr rest w1 (a :: s) v x :=
 ⟨⟨hm, Kd.N_grown h.1.2.1 hg (fun k hk e => hk (Option.some.inj e)), Kd.V_grown h.1.2.2.1 hg (fun k hk e => hk.1 (Option.some.inj e)), Below.grown h.1.2.2.2.1 hg h.1.2.2.2.1.size (fun j hj => by cases hj; exact hwb), Nat.le_trans h.1.2.2.2.2 hg.size⟩,
  R_over_mapB h.2.1 h.1.1 hg, Kd.V_grown h.2.2 hg (fun k hk e => hk.1 (Option.some.inj e))⟩
theorem CpJ.app (h : CpJ w b N0 vL layer Nm vm ms vr rest W s v x) (hw0 : w.heap.size ≤ N0) {v1 : Value} {y : List Int} (hn : Kd.N (Kd.slice 2 (Kd.int .i64)) 22 w1 N0 (fun k_ => k_ ≠ b) v1 (x ++ [y])) (hg : W.grownBy w1 v.ownBlock) : CpJ w b N0 vL layer Nm vm ms vr rest w1 s v1 (x ++ [y]) := by
 have hb := Kd.N_base h.1.2.1
 have hne : some b ≠ v.ownBlock := fun e => h.1.2.1.1 b e.symm rfl
 refine ⟨⟨h.1.1.kept hg hne, hn, Kd.V_grown h.1.2.2.1 hg (fun k hk e => Nat.not_le.2 hk.2 (hb k e.symm)), Below.grown h.1.2.2.2.1 hg h.1.2.2.2.1.size (fun j hj => Nat.le_trans hw0 (hb j hj)), Nat.le_trans h.1.2.2.2.2 hg.size⟩,
  ?_, Kd.V_grown h.2.2 hg (fun k hk e => Nat.not_le.2 hk.2 (hb k e.symm))⟩
 cases hv : v.ownBlock with
 | none =>
  rw [hv] at hg
  exact kL h.2.1 (Below.grown (kW _ _) hg (Nat.le_refl _) (fun j hj => by cases hj))
 | some j =>
  rw [hv] at hg
  refine Kd.R_grown1 h.2.1 rfl hg (fun e => ?_)
  obtain ⟨c1, e1⟩ := Kd.N_typed h.1.2.1 j hv
  obtain ⟨c2, e2⟩ := Kd.R_typed h.2.1 j e.symm
  rw [e1] at e2
  simp at e2
end
set_option maxHeartbeats 8000000 in
set_option maxRecDepth 100000 in
theorem impl_ties_countPrefixes.calls (k : Nat) (A0 : Option Addr) (c0 : Nat) (l0 : List Int) (A1 : Option Addr) (c1 : Nat) (l1 : List Int) (a2 : Int) (r : Int) (w : World) (hr0 : Kd.C (Kd.int .i64) w A0 l0.length l0) (hc0 : l0.length ≤ c0) (hr1 : Kd.C (Kd.int .i64) w A1 l1.length l1) (hc1 : l1.length ≤ c1) (hT : TabW w) (h : impl_ties_countPrefixes.f k l0 l1 a2 = some r) :
  Calls Tryd.prog 140 #[.slice A0 l0.length c0, .slice A1 l1.length c1, .int .i64 a2] w fun e w' => e = .returned (.int .i64 r) ∧ Below w.heap.size w w' := by
 have law : Go.Maps.Keyed Tryd.prog 2 := Go.Maps.int_keyed Tryd.underlying2
 have hmm := @run_makeMap Tryd.prog
 have HR0 := zA hr0
 have HC0 := zA hc0
 have HR1 := zA hr1
 have HC1 := zA hc1
 have HT := zA hT
 have HM0 := zA (MapW.made (P := Tryd.prog) (k := 2) (e := 4) (kf := Lit.int .i64) (ef := Lit.bool) (z := false) (ok := fun a => (Lit.int .i64 a).wf = true) w)
 have H' := zA h
 unfold impl_ties_countPrefixes.f at H'
 clear h hr0 hr1 hc0 hc1 hT
 go_enter Tryd.func140, Tryd.ntmps140
 go_wp2_with (first | (refine wpList_mw_insB rfl (.tmp 16) (.const (.int .i64 0)) (.const (.bool true)) 147 rfl law litint_injB (fun _ => trivial) Tryd.underlying147 HM0.out (by decide) rfl 0 (by decide) _ _ rfl rfl (Go.Maps.keyOf_int_mk Tryd.underlying2 (by decide)) true (plainElem_bool Tryd.underlying4 true) ?_; intro w1 hm1 hg1; have HM1 := zA (show MapB w1 w.heap.size [0] from MapB_first hm1); have HB := zA (show Below w.heap.size w w1 from Below.grown (zB (kW _ _) _) hg1 (by simp) (fun j hj => by cases hj; exact Nat.le_refl _)); clear hm1 hg1) | ((with_reducible refine kS (N := 19) rfl ?_); refine Kd.N_lit (Kd.slice 2 (Kd.int .i64)) 0 22 ?hg (N' := 19) ?hd (xs := ([l1] : List (List Int))) (inner := [.slice A1 l1.length c1]) (ok := fun k_ => k_ ≠ w.heap.size) (okp := fun k_ => k_ ≠ w.heap.size) ?hr ?hp (fun _ hk => hk) (fun e_ => Nat.lt_irrefl _ (e_ ▸ HM1.out.lt)) (kW _ _) (Nat.zero_le _) (by simp) ?_; (case hd => rfl); (case hg => rfl); (case hr => first | (go_simp; done) | (go_simp; rfl)); (case hp => exact Reps.one (show Kd.FK (Kd.slice 2 (Kd.int .i64)) _ _ l1 [.slice A1 l1.length c1] from Kd.FK_slice_mk HC1.out (Kd.F_mono (Kd.F_below (Kd.C_F (Kd.heap_int .i64) HR1.out) HB.out) (fun k_ hk_ => Nat.ne_of_lt hk_))) (Reps.none _ _)); intro v19 w2 hn hb0 hg2 hat; have HL := zA (Kd.N_V (base' := 0) hn); have HM2 := zA (show MapB w2 w.heap.size [0] from HM1.out.kept hg2 (by simp)); have HB2 := zA (show Below w.heap.size w w2 from Below.grown HB.out hg2 HB.out.size (fun j hj => by cases hj)); clear hn hb0 hg2 hat))
 clear HM0 HM1 HB
 go_loopg [8] k (fun gg v8 wr => ∃ (seen : List Int) (layer : List (List Int)), Aside0 (impl_ties_countPrefixes.l0 gg l0 l1 a2 seen layer = some r) ∧ Aside0 (gg ≤ k) ∧ Aside0 (MapB wr w.heap.size seen) ∧ Aside0 (Kd.V (Kd.slice 2 (Kd.int .i64)) 22 wr 0 (fun k_ => k_ ≠ w.heap.size) v8 layer) ∧ Aside0 (Below w.heap.size w wr))
 case atStart => exact ⟨[0], [l1], H', ⟨Nat.le_refl _⟩, HM2, HL, HB2⟩
 case round =>
  clear H' HM2 HL HB2
  obtain ⟨seen, layer, HA, HK, HM, HV, HB⟩ := hrel
  cases gk with
  | zero => exact absurd HA.out (by simp [impl_ties_countPrefixes.l0])
  | succ k1 =>
   have H := HA.out
   clear HA
   simp only [impl_ties_countPrefixes.l0] at H
   obtain ⟨A8, c8, e8⟩ := Kd.V_slice HV.out
   subst e8
   have hlen := MapB_len HM.out 3
   by_cases c1 : (layer.length : Int) > 0
   ·have c1b : decide ((layer.length : Int) > 0) = true := decide_eq_true c1
    by_cases c2 : (seen.length : Int) ≤ a2
    ·rw [if_pos ⟨c1, c2⟩] at H
     have c2b : decide ((seen.length : Int) ≤ a2) = true := decide_eq_true c2
     have HBN := zA (HB.out.size)
     have HVB := zA (Kd.V_bound HV.out)
     clear HV
     go_wp2_with (first | ((with_reducible refine kS (N := 29) rfl ?_); refine Kd.N_lit (Kd.slice 2 (Kd.int .i64)) wr.heap.size 22 ?hg (N' := 29) ?hd (xs := ([] : List (List Int))) (inner := []) (ok := fun k_ => k_ ≠ w.heap.size) (okp := fun k_ => k_ ≠ w.heap.size) ?hr ?hp (fun _ hk => hk) (fun e_ => Nat.lt_irrefl _ (e_ ▸ HM.out.lt)) (kW _ _) (Nat.le_refl _) (by simp) ?_; (case hd => rfl); (case hg => rfl); (case hr => first | (go_simp; done) | (go_simp; rfl)); (case hp => exact Reps.none _ _); intro v29 w3 hn hb0 hg2 hat; have HX := zA hn; have HM3 := zA (show MapB w3 w.heap.size seen from HM.out.kept hg2 (by simp)); have HB3 := zA (show Below w.heap.size w w3 from Below.grown HB.out hg2 HB.out.size (fun j hj => by cases hj)); have HV3 := zA (Kd.V_grown HVB.out hg2 (fun _ _ => by simp)); have HS3 := zA (show wr.heap.size ≤ w3.heap.size from hg2.size); clear hn hb0 hg2 hat))
     have HI := zA (show CpI w w.heap.size wr.heap.size (.slice A8 layer.length c8) layer w3 seen v29 [] from ⟨HM3.out, HX.out, HV3.out, HB3.out, HS3.out⟩)
     clear HX HM3 HB3 HV3 HS3 HVB HM HB c1b c2b hlen c1 c2
     obtain ⟨⟨S2, X2⟩, hA, H⟩ := Option.bind_eq_some_iff.1 H
     have HA := zA hA
     have HR := zA H
     clear hA H
     generalize wr.heap.size = N0 at HI HBN
     go_loopg [9, 32] k1 (fun gg v9 v32 w' => ∃ (s : List Int) (x : List (List Int)) (i : Int), v32 = .int .i64 i ∧ Aside0 (impl_ties_countPrefixes.l1 gg l0 l1 layer i s x = some (S2, X2)) ∧ Aside0 (gg ≤ k1) ∧ Aside0 (CpI w w.heap.size N0 (.slice A8 layer.length c8) layer w' s v9 x))
     case atStart => exact ⟨seen, [], 0, rfl, HA, ⟨Nat.le_refl _⟩, HI⟩
     case round =>
      clear HA HI
      obtain ⟨s, x, i, rfl, HA, HK2, HI⟩ := hrel
      cases gk with
      | zero => exact absurd HA.out (by simp [impl_ties_countPrefixes.l1])
      | succ k2 =>
       have H := HA.out
       clear HA
       simp only [impl_ties_countPrefixes.l1] at H
       by_cases c3 : i < (layer.length : Int)
       ·rw [if_pos c3] at H
        have c3b : decide (i < (layer.length : Int)) = true := decide_eq_true c3
        by_cases c4 : 0 ≤ i
        ·rw [if_pos c4] at H
         have c4b : decide (0 ≤ i) = true := decide_eq_true c4
         obtain ⟨ad, cs, eA, _, hFK, hcell0, _⟩ := Kd.F_get (jB HI.out.2.2.1) ([] : List Int) i c4 c3
         subst eA
         obtain ⟨rest, hrest⟩ : ∃ z, z = layer.getD i.toNat [] := ⟨_, rfl⟩
         rw [← hrest] at hFK H
         obtain ⟨Ar, cr, ecs, hlc, hF⟩ := Kd.FK_slice_open hFK
         subst ecs
         have hcell : wr.cell? (ad.add i.toNat) = some (.slice Ar rest.length cr) := by
          have := hcell0 0 _ rfl
          rwa [show i.toNat * (Kd.slice 2 (Kd.int .i64)).sz + 0 = i.toNat by show i.toNat * 1 + 0 = _; omega] at this
         have HVR := zA (Kd.V_mk (e := 2) (base := 0) hlc hF)
         clear hFK hcell0 hlc hF
         obtain ⟨m, h1, H⟩ := Option.bind_eq_some_iff.1 H
         obtain ⟨ms, h2, H⟩ := Option.bind_eq_some_iff.1 H
         obtain ⟨⟨S3, X3⟩, h3, H⟩ := Option.bind_eq_some_iff.1 H
         have H1 := zA h1
         have H2 := zA h2
         have H3 := zA h3
         have HRR := zA H
         clear h1 h2 h3 H hrest
         replace c3 := eq_true c3
         replace c4 := eq_true c4
         go_wp2_with (first | (refine zO (some 38) Tryd.func157 #[.slice A0 l0.length c0, .slice Ar rest.length cr] ?_; (with_reducible refine (impl_ties_firsts.calls k2 _ _ l0 _ _ rest m _ ?side1 ?side2 ?side3 ?side4 H1.out).mono ?_); (case side1 => exact kO HR0.out HI.out.2.2.2.1); (case side2 => exact HC0.out); (case side3 => exact (kJ HVR.out).2.2); (case side4 => exact (kJ HVR.out).2.1); rintro e w5 ⟨rfl, hd⟩; refine ⟨_, rfl, ?_⟩; have HI2 := zA (HI.out.drawn hd); have HVR2 := zA (show Kd.V (Kd.int .i64) 2 w5 0 _ (.slice Ar rest.length cr) rest from by obtain ⟨n_, rfl⟩ := hd; exact Kd.V_drewN HVR.out n_); clear hd) | (refine zO (some 39) Tryd.func138 #[.int .i64 m] ?_; (with_reducible refine (impl_members.calls k2 m ms _ ?side1 H2.out).mono ?_); (case side1 => exact TabW.below HT.out HI2.out.2.2.2.1); rintro e w6 ⟨v39, rfl, ho0, hb⟩; refine ⟨_, rfl, ?_⟩; have HI3 := zA (HI2.out.below hb); have HVR3 := zA (kG HVR2.out hb); obtain ⟨Am, cm, em⟩ := kM ho0; subst em; have HJ := zA (show CpJ w w.heap.size N0 _ layer w5.heap.size (.slice Am ms.length cm) ms (.slice Ar rest.length cr) rest w6 s u9 x from ⟨HI3.out, ho0, HVR3.out⟩); clear ho0 hb))
         clear HI
         generalize w5.heap.size = Nm at HJ
         go_loopg [9, 41] k2 (fun gg v9 v41 w' => ∃ (s2 : List Int) (x2 : List (List Int)) (i2 : Int), v41 = .int .i64 i2 ∧ Aside0 (impl_ties_countPrefixes.l2 gg l1 rest ms i2 s2 x2 = some (S3, X3)) ∧ Aside0 (gg ≤ k2) ∧ Aside0 (CpJ w w.heap.size N0 (.slice (some ad) layer.length c8) layer Nm (.slice Am ms.length cm) ms (.slice Ar rest.length cr) rest w' s2 v9 x2))
         case atStart => exact ⟨s, x, 0, rfl, H3, ⟨Nat.le_refl _⟩, HJ⟩
         case round =>
          clear H3 HJ
          obtain ⟨s2, x2, i2, rfl, HA, HK3, HJ⟩ := hrel
          cases gk with
          | zero => exact absurd HA.out (by simp [impl_ties_countPrefixes.l2])
          | succ k3 =>
           have H := HA.out
           clear HA
           simp only [impl_ties_countPrefixes.l2] at H
           by_cases c5 : i2 < (ms.length : Int)
           ·rw [if_pos c5] at H
            have c5b : decide (i2 < (ms.length : Int)) = true := decide_eq_true c5
            by_cases c6 : 0 ≤ i2
            ·rw [if_pos c6] at H
             have c6b : decide (0 ≤ i2) = true := decide_eq_true c6
             obtain ⟨less, h4, H⟩ := Option.bind_eq_some_iff.1 H
             obtain ⟨kw, h5, H⟩ := Option.bind_eq_some_iff.1 H
             obtain ⟨kl, h6, H⟩ := Option.bind_eq_some_iff.1 H
             have H4 := zA h4
             have H5 := zA h5
             have H6 := zA h6
             clear h4 h5 h6
             obtain ⟨ad2, eA2, hcell2⟩ := Kd.at_int (kB HJ.out.2.1).2.2 i2 c6 c5
             subst eA2
             have HMB := HJ.out.1.1
             have HWB := zA (show w.heap.size < wr.heap.size from MapW.lt HMB)
             have HUB := zA (jA HJ.out.1.2.1)
             clear HMB
             generalize hkey : wrap64 (kw - kl) = key at H
             have HWF := zA (show (Lit.int .i64 key).wf = true from hkey ▸ wrap64_wf _)
             have HKY := zA hkey
             clear hkey
             replace c5 := eq_true c5
             replace c6 := eq_true c6
             by_cases c7 : key ∈ s2
             ·rw [if_pos c7] at H
              have HN := zA H
              have HD := zA (show decide (key ∈ s2) = true from decide_eq_true c7)
              clear H c7
              go_wp2_with (first | (refine zO (some 47) Tryd.func158 #[.slice Ar rest.length cr, .int .i64 (rd ms i2)] ?_; (with_reducible refine (impl_withoutFirst.calls k3 (fun k_ => k_ ≠ w.heap.size ∧ k_ < N0) _ _ rest (rd ms i2) less _ ?side1 H4.out).mono ?_); (case side1 => exact HJ.out.2.2); rintro e w7 ⟨v47, rfl, ho0, hb⟩; refine ⟨_, rfl, ?_⟩; have HJ1 := zA (HJ.out.below hb); obtain ⟨Al, cl, el⟩ := kM ho0; subst el; have HO1 := zA ho0; clear ho0 hb) | (refine zO (some 49) Tryd.func188 #[.slice A1 l1.length c1] ?_; (with_reducible refine (impl_contentKey.calls k3 _ _ l1 kw _ ?side1 ?side2 H5.out).mono ?_); (case side1 => exact kO HR1.out HJ1.out.1.2.2.2.1); (case side2 => exact HC1.out); rintro e w8 ⟨rfl, hd⟩; refine ⟨_, rfl, ?_⟩; have HJ2 := zA (HJ1.out.drawn hd); have HO2 := zA (R_drawnB HO1.out hd); clear hd) | (refine zO (some 51) Tryd.func188 #[.slice Al less.length cl] ?_; (with_reducible refine (impl_contentKey.calls k3 _ _ less kl _ ?side1 ?side2 H6.out).mono ?_); (case side1 => exact (kB HO2.out).2.2); (case side2 => exact (kB HO2.out).2.1); rintro e w9 ⟨rfl, hd⟩; refine ⟨_, rfl, ?_⟩; have HJ4 := zA (HJ2.out.drawn hd); have HO3 := zA (R_drawnB HO2.out hd); clear hd) | (at_lookup; refine wpList_mw_bool rfl (.tmp 53) (.tmp 54) 147 rfl law Tryd.underlying147 Tryd.underlying4 zero_boolD HJ4.out.1.1 rfl key HWF.out _ (by first | exact congrArg (Value.int .i64) HKY.out | (go_simp; exact HKY.out) | (go_simp; rw [HKY.out])) (Go.Maps.keyOf_int_mk Tryd.underlying2 HWF.out) ?_; rw [HD.out]))
              go_roundg k3
              case measure => have := HK3.out; omega
              case rel => exact ⟨s2, x2, wrap64 (i2 + 1), rfl, HN, ⟨by have := HK3.out; omega⟩, HJ4⟩
             rw [if_neg c7] at H
             by_cases c8 : x2.length < 1000000000 ∧ s2.length < 1000000000
             ·rw [if_pos c8] at H
              have HN := zA H
              have HD := zA (show decide (key ∈ s2) = false from decide_eq_false c7)
              have H7 := zA c7
              have H8 := zA c8
              clear H c7 c8
              go_wp2_with (first | (refine zO (some 47) Tryd.func158 #[.slice Ar rest.length cr, .int .i64 (rd ms i2)] ?_; (with_reducible refine (impl_withoutFirst.calls k3 (fun k_ => k_ ≠ w.heap.size ∧ k_ < N0) _ _ rest (rd ms i2) less _ ?side1 H4.out).mono ?_); (case side1 => exact HJ.out.2.2); rintro e w7 ⟨v47, rfl, ho0, hb⟩; refine ⟨_, rfl, ?_⟩; have HJ1 := zA (HJ.out.below hb); obtain ⟨Al, cl, el⟩ := kM ho0; subst el; have HO1 := zA ho0; clear ho0 hb) | (refine zO (some 49) Tryd.func188 #[.slice A1 l1.length c1] ?_; (with_reducible refine (impl_contentKey.calls k3 _ _ l1 kw _ ?side1 ?side2 H5.out).mono ?_); (case side1 => exact kO HR1.out HJ1.out.1.2.2.2.1); (case side2 => exact HC1.out); rintro e w8 ⟨rfl, hd⟩; refine ⟨_, rfl, ?_⟩; have HJ2 := zA (HJ1.out.drawn hd); have HO2 := zA (R_drawnB HO1.out hd); clear hd) | (refine zO (some 51) Tryd.func188 #[.slice Al less.length cl] ?_; (with_reducible refine (impl_contentKey.calls k3 _ _ less kl _ ?side1 ?side2 H6.out).mono ?_); (case side1 => exact (kB HO2.out).2.2); (case side2 => exact (kB HO2.out).2.1); rintro e w9 ⟨rfl, hd⟩; refine ⟨_, rfl, ?_⟩; have HJ4 := zA (HJ2.out.drawn hd); have HO3 := zA (R_drawnB HO2.out hd); clear hd) | (at_lookup; refine wpList_mw_bool rfl (.tmp 53) (.tmp 54) 147 rfl law Tryd.underlying147 Tryd.underlying4 zero_boolD HJ4.out.1.1 rfl key HWF.out _ (by first | exact congrArg (Value.int .i64) HKY.out | (go_simp; exact HKY.out) | (go_simp; rw [HKY.out])) (Go.Maps.keyOf_int_mk Tryd.underlying2 HWF.out) ?_; rw [HD.out]) | (at_mapUpdate; refine wpList_mw_put rfl (.tmp 57) (.tmp 58) (.const (.bool true)) 147 rfl law litint_injB (fun _ => trivial) Tryd.underlying147 HJ4.out.1.1 (by have := H8.out.2; unfold maxLen; omega) rfl key HWF.out _ _ (by first | exact congrArg (Value.int .i64) HKY.out | (go_simp; exact HKY.out) | (go_simp; rw [HKY.out])) rfl (Go.Maps.keyOf_int_mk Tryd.underlying2 HWF.out) true (plainElem_bool Tryd.underlying4 true) ?_; intro w10 hm2 hg2; have HJ5 := zA (HJ4.out.put (Nat.le_refl _) (MapB_put H7.out hm2) hg2); have HO4 := zA (R_over_mapB HO3.out HJ4.out.1.1 hg2); clear hm2 hg2) | ((with_reducible refine gate_builtin (b := .append) (xs := #[.tmp 59, .tmp 61]) rfl ?_); at_builtin; refine Kd.N_append (Kd.slice 2 (Kd.int .i64)) (w0 := w10) N0 rfl (.tmp 59) (.tmp 61) 26 22 (.slice none 0 0) 24 rfl Tryd.underlying26 info22 rfl (by decide) (by omega) u9 x2 less [.slice Al less.length cl] (fun k_ => k_ ≠ w.heap.size) (fun k_ => k_ ≠ w.heap.size ∧ some k_ ≠ (u9 : Value).ownBlock) rfl rfl ?aP (fun _ hk => hk) ?aF ?aO (kW _ _) ?aS ?aL ?_; (case aP => exact Kd.FK_slice_mk (kB HO4.out).2.1 (Kd.F_mono (Kd.R_F HO4.out) (fun k_ hk_ => ⟨fun e_ => by have := HWB.out; omega, fun e_ => by have := HUB.out k_ e_.symm; omega⟩))); (case aF => exact fun k_ hk_ e_ => by have := MapW.lt HJ5.out.1.1; omega); (case aO => exact HJ5.out.1.2.1); (case aS => exact HJ5.out.1.2.2.2.2); (case aL => have := H8.out.1; omega); intro v62 w11 ho hb hg hat; have HJ6 := zA (HJ5.out.app HBN.out ho hg); clear ho hb hg hat))
              go_roundg k3
              case measure => have := HK3.out; omega
              case rel => exact ⟨key :: s2, x2 ++ [less], wrap64 (i2 + 1), rfl, HN, ⟨by have := HK3.out; omega⟩, HJ6⟩
             rw [if_neg c8] at H
             cases H
            rw [if_neg c6] at H
            cases H
           rw [if_neg c5] at H
           have c5b : decide (i2 < (ms.length : Int)) = false := decide_eq_false c5
           simp only [Option.some.injEq, Prod.mk.injEq] at H
           obtain ⟨rfl, rfl⟩ := H
           go_wp2
           go_roundg k2
           case measure => have := HK2.out; omega
           case rel => exact ⟨s2, x2, wrap64 (i + 1), rfl, HRR, ⟨by have := HK2.out; omega⟩, ⟨HJ.out.1⟩⟩
        rw [if_neg c4] at H
        cases H
       rw [if_neg c3] at H
       have c3b : decide (i < (layer.length : Int)) = false := decide_eq_false c3
       simp only [Option.some.injEq, Prod.mk.injEq] at H
       obtain ⟨rfl, rfl⟩ := H
       go_wp2
       go_roundg k1
       case measure => have := HK.out; omega
       case rel => exact ⟨s, x, HR, ⟨by have := HK.out; omega⟩, ⟨HI.out.1⟩, ⟨kN (Kd.N_V HI.out.2.1) (fun _ h_ => h_)⟩, ⟨HI.out.2.2.2.1⟩⟩
    rw [if_neg (fun z => c2 z.2)] at H
    have c2b : decide ((seen.length : Int) ≤ a2) = false := decide_eq_false c2
    have hr := Option.some.inj H
    clear H
    go_wp2_with (first | (refine wpList_mw_len rfl (.tmp 66) 147 rfl Tryd.underlying147 HM.out rfl ?_))
    all_goals
     go_ret
     exact ⟨congrArg (fun x => Ending.returned (Value.int .i64 x)) (by omega), HB.out⟩
   rw [if_neg (fun z => c1 z.1)] at H
   have c1b : decide ((layer.length : Int) > 0) = false := decide_eq_false c1
   have hr := Option.some.inj H
   clear H
   go_wp2_with (first | (refine wpList_mw_len rfl (.tmp 66) 147 rfl Tryd.underlying147 HM.out rfl ?_))
   all_goals
    go_ret
    exact ⟨congrArg (fun x => Ending.returned (Value.int .i64 x)) (by omega), HB.out⟩

/-! ### impl_CountPrefixes: function 64 -/
def impl_CountPrefixes.f (k : Nat) (a0_0 : Int) (l0_1 : List Int) (l1 : List Int) : Option (Int × Int) := (impl_checkWords.f k a0_0 l0_1 (([l1] : List (List Int)))).bind fun t276 => (if t276 = 0 then ((impl_Alphabet_ties.f a0_0 l0_1).bind fun t277 => ((impl_ties_countPrefixes.f k t277 l1 16777216).bind fun t280 => (some (t280, 0)))) else (some (0, t276)))

set_option maxHeartbeats 8000000 in
set_option maxRecDepth 100000 in
theorem impl_CountPrefixes.calls (k : Nat) (a0_0 : Int) (P0_1_ : Nat → Prop) (A0_1 : Option Addr) (c0_1 : Nat) (l0_1 : List Int) (P1_ : Nat → Prop) (A1 : Option Addr) (c1 : Nat) (l1 : List Int) (r1 : Int) (r2 : Int) (w : World) (hs0_1 : Kd.V (Kd.int .i64) 2 w w.heap.size (fun k_ => P0_1_ k_) (.slice A0_1 l0_1.length c0_1) l0_1) (hs1 : Kd.V (Kd.int .i64) 2 w w.heap.size (fun k_ => P1_ k_) (.slice A1 l1.length c1) l1) (hT : TabW w) (h : impl_CountPrefixes.f k a0_0 l0_1 l1 = some (r1, r2)) :
  Calls Tryd.prog 64 #[.agg #[.int .i64 a0_0, .slice A0_1 l0_1.length c0_1], .slice A1 l1.length c1] w fun e w' => e = .returned (.tuple #[.int .i64 r1, .int .i64 r2]) ∧ Below w.heap.size w w' := by
 have hu29 := Tryd.underlying29
 have HT := zA hT
 clear hT
 have HO0_1 := zA (show Kd.V (Kd.int .i64) 2 w w.heap.size (fun k_ => ((P0_1_ k_ ∨ P1_ k_) ∨ w.heap.size ≤ k_)) (.slice A0_1 l0_1.length c0_1) l0_1 from kN hs0_1 (fun k_ hk => .inl (.inl hk)))
 have HO1 := zA (show Kd.V (Kd.int .i64) 2 w w.heap.size (fun k_ => ((P0_1_ k_ ∨ P1_ k_) ∨ w.heap.size ≤ k_)) (.slice A1 l1.length c1) l1 from kN hs1 (fun k_ hk => .inl (.inr hk)))
 have HB := zA (kW w.heap.size w)
 have H := h
 unfold impl_CountPrefixes.f at H
 clear h
 obtain ⟨y273, hy273⟩ : ∃ y_ : List (List Int), y_ = (([l1] : List (List Int))) := ⟨_, rfl⟩
 replace H : ((impl_checkWords.f k a0_0 l0_1 y273).bind fun t276 => (if t276 = 0 then ((impl_Alphabet_ties.f a0_0 l0_1).bind fun t277 => ((impl_ties_countPrefixes.f k t277 l1 16777216).bind fun t280 => (some (t280, 0)))) else (some (0, t276)))) = some (r1, r2) := zy hy273 H
 have Ny273 := zA hy273
 clear hy273
 obtain ⟨t276, A3, H⟩ := zb H
 try dsimp only at H
 by_cases c4 : t276 = 0
 ·rw [if_pos c4] at H
  obtain ⟨c4b0, c4b1⟩ := zT1 c4
  clear c4
  obtain ⟨t277, A5, H⟩ := zb H
  try dsimp only at H
  obtain ⟨t280, A6, H⟩ := zb H
  try dsimp only at H
  simp only [Option.some.injEq, Prod.mk.injEq] at H
  obtain ⟨rfl, rfl⟩ := H
  go_enter Tryd.func64, Tryd.ntmps64
  go_wp2_with (first | (refine zBE 2 #[.int .i64 a0_0, .slice A0_1 l0_1.length c0_1] 29 ?_; intro gb272 hg w7 hbox hb; replace HO0_1 := zA (kG (jD (zPV HO0_1.out) gb272 (Nat.le_of_eq hg.symm)) hb); replace HO1 := zA (kG (jD (zPV HO1.out) gb272 (Nat.le_of_eq hg.symm)) hb); have BK272 := zA (hbox); have GW272 := zA (zBH hg HB.out); have GE272 := zA (zBH hg HB.out); replace HB := zA (kQ (zQ HB.out) hb); clear hb hbox hg; obtain ⟨hcz8_0, hcz8_1, hfz8_0, hfz8_1⟩ := zB3 BK272.out) | ((with_reducible refine kS (N := 9) rfl ?_); refine Kd.N_lit (Kd.slice 2 (Kd.int .i64)) _ 22 ?hg (N' := 9) ?hd (xs := ([l1] : List (List Int))) (inner := [.slice A1 l1.length c1]) (ok := (fun k_ => ((P0_1_ k_ ∨ P1_ k_) ∨ w.heap.size ≤ k_) ∧ k_ ≠ gb272)) (okp := (fun k_ => ((P0_1_ k_ ∨ P1_ k_) ∨ w.heap.size ≤ k_) ∧ k_ ≠ gb272)) ?hr ?hp (fun _ hk => hk) ((show ∀ k_ : Nat, (_ : Nat) ≤ k_ → (fun k_ => ((P0_1_ k_ ∨ P1_ k_) ∨ w.heap.size ≤ k_) ∧ k_ ≠ gb272) k_ from fun k_ hk => ⟨(.inr (Nat.le_trans (kP (zT HB.out GE272.out)) hk)), jE (g := gb272) (o := .cells #[.int .i64 a0_0, .slice A0_1 l0_1.length c0_1] 29 (0, 0)) (zR BK272.out) k_ hk⟩) _ (Nat.le_refl _)) (kW _ _) (Nat.le_refl _) (by simp) ?_; (case hd => rfl); (case hg => rfl); (case hr => first | (go_simp; done) | (go_simp; rfl)); (case hp => exact (Reps.one (show Kd.FK (Kd.slice 2 (Kd.int .i64)) _ _ l1 [.slice A1 l1.length c1] from (zFK (kN (ok' := (fun k_ => ((P0_1_ k_ ∨ P1_ k_) ∨ w.heap.size ≤ k_) ∧ k_ ≠ gb272)) (HO1.out) (fun k_ hk => ⟨hk.1, hk.2⟩)))) (Reps.none _ _))); intro v274 w9 ho10 hb hg_ hnew_; clear hg_ hnew_; (first | rw [← Ny273.out] at ho10 | (simp only [Int.reduceToNat] at ho10; rw [← Ny273.out] at ho10)); replace HO0_1 := zA (kK (zPV HO0_1.out) (Kd.N_base ho10) hb); replace HO1 := zA (kK (zPV HO1.out) (Kd.N_base ho10) hb); have HO275 := zA (jN ho10 (kP (zT HB.out GE272.out))); replace BK272 := zA (zB1 BK272.out hb); replace HB := zA (kQ (zT HB.out GE272.out) hb); clear hb ho10; obtain ⟨Ao11, co11, eo11⟩ := Kd.N_slice HO275.out; subst eo11) | (refine zO (some 10) Tryd.func76 #[.agg #[.int .i64 a0_0, .slice A0_1 l0_1.length c0_1], .slice Ao11 y273.length co11] ?_; (with_reducible refine (impl_checkWords.calls k a0_0 _ _ l0_1 _ _ y273 t276 _ ?side1 ?side2 ?side3 ?side4 ?side5 A3.out).mono ?_); (case side1 => exact zS (kJ HO0_1.out).2.2); (case side2 => exact (kJ HO0_1.out).2.1); (case side3 => exact zS (Kd.N_reads' HO275.out).2.2); (case side4 => exact (Kd.N_reads' HO275.out).2.1); (case side5 => exact TabW.below HT.out (zT HB.out GE272.out)); rintro e w12 ⟨rfl, hb⟩; refine ⟨_, rfl, ?_⟩; replace HO0_1 := zA (kG (zPV HO0_1.out) hb); replace HO1 := zA (kG (zPV HO1.out) hb); replace HO275 := zA (kZ (zPN HO275.out) hb); replace BK272 := zA (zB1 BK272.out hb); replace HB := zA (kQ (zT HB.out GE272.out) hb); (try clear hb); obtain ⟨hcz13_0, hcz13_1, hfz13_0, hfz13_1⟩ := zB3 BK272.out) | (refine zO (some 15) Tryd.func77 #[.agg #[.int .i64 a0_0, .slice A0_1 l0_1.length c0_1]] ?_; (with_reducible refine (impl_Alphabet_ties.calls a0_0 (fun k_ => ((((P0_1_ k_ ∨ P1_ k_) ∨ w.heap.size ≤ k_) ∧ k_ ≠ gb272) ∧ some k_ ≠ (.slice Ao11 y273.length co11 : Value).ownBlock)) _ _ l0_1 t277 _ ?side1 A5.out).mono ?_); (case side1 => exact HO0_1.out); rintro e w14 ⟨v278, rfl, ho0, hb⟩; refine ⟨_, rfl, ?_⟩; replace HO0_1 := zA (kG (zPV HO0_1.out) hb); replace HO1 := zA (kG (zPV HO1.out) hb); have HO279 := zA (jM (kN (ok' := fun k_ => ((P0_1_ k_ ∨ P1_ k_) ∨ w.heap.size ≤ k_) ∧ some k_ ≠ (.slice Ao11 y273.length co11 : Value).ownBlock ∧ k_ ≠ gb272) ho0 (fun k_ hk_ => ⟨Or.elim hk_ (fun hs_ => hs_.1.1) (fun hn_ => (.inr (Nat.le_trans (kP (zT HB.out GE272.out)) hn_))), Or.elim hk_ (fun hs_ => hs_.2) (fun hn_ => (jF (jA (zPN HO275.out)) k_ hn_)), Or.elim hk_ (fun hs_ => hs_.1.2) (fun hn_ => (jE (g := gb272) (o := .cells #[.int .i64 a0_0, .slice A0_1 l0_1.length c0_1] 29 (0, 0)) (zR BK272.out) k_ hn_))⟩)) (kP (zT HB.out GE272.out))); replace HO275 := zA (kZ (zPN HO275.out) hb); replace BK272 := zA (zB1 BK272.out hb); replace HB := zA (kQ (zT HB.out GE272.out) hb); (try clear hb); (try clear ho0); obtain ⟨Ao15, co15, eo15⟩ := Kd.V_slice HO279.out; subst eo15) | (refine zO (some 17) Tryd.func140 #[.slice Ao15 t277.length co15, .slice A1 l1.length c1, .int .i64 16777216] ?_; (with_reducible refine (impl_ties_countPrefixes.calls k _ _ t277 _ _ l1 16777216 t280 _ ?side1 ?side2 ?side3 ?side4 ?side5 A6.out).mono ?_); (case side1 => exact zS (kJ HO279.out).2.2); (case side2 => exact (kJ HO279.out).2.1); (case side3 => exact zS (kJ HO1.out).2.2); (case side4 => exact (kJ HO1.out).2.1); (case side5 => exact TabW.below HT.out (zT HB.out GE272.out)); rintro e w16 ⟨rfl, hb⟩; refine ⟨_, rfl, ?_⟩; replace HO0_1 := zA (kG (zPV HO0_1.out) hb); replace HO1 := zA (kG (zPV HO1.out) hb); replace HO275 := zA (kZ (zPN HO275.out) hb); replace HO279 := zA (kG (zPV HO279.out) hb); replace BK272 := zA (zB1 BK272.out hb); replace HB := zA (kQ (zT HB.out GE272.out) hb); (try clear hb)))
  go_ret2
  exact ⟨zr, zT HB.out GE272.out⟩
 rw [if_neg c4] at H
 obtain ⟨c4b0, c4b1⟩ := zT2 c4
 simp only [Option.some.injEq, Prod.mk.injEq] at H
 obtain ⟨rfl, rfl⟩ := H
 go_enter Tryd.func64, Tryd.ntmps64
 go_wp2_with (first | (refine zBE 2 #[.int .i64 a0_0, .slice A0_1 l0_1.length c0_1] 29 ?_; intro gb272 hg w17 hbox hb; replace HO0_1 := zA (kG (jD (zPV HO0_1.out) gb272 (Nat.le_of_eq hg.symm)) hb); replace HO1 := zA (kG (jD (zPV HO1.out) gb272 (Nat.le_of_eq hg.symm)) hb); have BK272 := zA (hbox); have GW272 := zA (zBH hg HB.out); have GE272 := zA (zBH hg HB.out); replace HB := zA (kQ (zQ HB.out) hb); clear hb hbox hg; obtain ⟨hcz18_0, hcz18_1, hfz18_0, hfz18_1⟩ := zB3 BK272.out) | ((with_reducible refine kS (N := 9) rfl ?_); refine Kd.N_lit (Kd.slice 2 (Kd.int .i64)) _ 22 ?hg (N' := 9) ?hd (xs := ([l1] : List (List Int))) (inner := [.slice A1 l1.length c1]) (ok := (fun k_ => ((P0_1_ k_ ∨ P1_ k_) ∨ w.heap.size ≤ k_) ∧ k_ ≠ gb272)) (okp := (fun k_ => ((P0_1_ k_ ∨ P1_ k_) ∨ w.heap.size ≤ k_) ∧ k_ ≠ gb272)) ?hr ?hp (fun _ hk => hk) ((show ∀ k_ : Nat, (_ : Nat) ≤ k_ → (fun k_ => ((P0_1_ k_ ∨ P1_ k_) ∨ w.heap.size ≤ k_) ∧ k_ ≠ gb272) k_ from fun k_ hk => ⟨(.inr (Nat.le_trans (kP (zT HB.out GE272.out)) hk)), jE (g := gb272) (o := .cells #[.int .i64 a0_0, .slice A0_1 l0_1.length c0_1] 29 (0, 0)) (zR BK272.out) k_ hk⟩) _ (Nat.le_refl _)) (kW _ _) (Nat.le_refl _) (by simp) ?_; (case hd => rfl); (case hg => rfl); (case hr => first | (go_simp; done) | (go_simp; rfl)); (case hp => exact (Reps.one (show Kd.FK (Kd.slice 2 (Kd.int .i64)) _ _ l1 [.slice A1 l1.length c1] from (zFK (kN (ok' := (fun k_ => ((P0_1_ k_ ∨ P1_ k_) ∨ w.heap.size ≤ k_) ∧ k_ ≠ gb272)) (HO1.out) (fun k_ hk => ⟨hk.1, hk.2⟩)))) (Reps.none _ _))); intro v274 w19 ho20 hb hg_ hnew_; clear hg_ hnew_; (first | rw [← Ny273.out] at ho20 | (simp only [Int.reduceToNat] at ho20; rw [← Ny273.out] at ho20)); replace HO0_1 := zA (kK (zPV HO0_1.out) (Kd.N_base ho20) hb); replace HO1 := zA (kK (zPV HO1.out) (Kd.N_base ho20) hb); have HO275 := zA (jN ho20 (kP (zT HB.out GE272.out))); replace BK272 := zA (zB1 BK272.out hb); replace HB := zA (kQ (zT HB.out GE272.out) hb); clear hb ho20; obtain ⟨Ao21, co21, eo21⟩ := Kd.N_slice HO275.out; subst eo21) | (refine zO (some 10) Tryd.func76 #[.agg #[.int .i64 a0_0, .slice A0_1 l0_1.length c0_1], .slice Ao21 y273.length co21] ?_; (with_reducible refine (impl_checkWords.calls k a0_0 _ _ l0_1 _ _ y273 t276 _ ?side1 ?side2 ?side3 ?side4 ?side5 A3.out).mono ?_); (case side1 => exact zS (kJ HO0_1.out).2.2); (case side2 => exact (kJ HO0_1.out).2.1); (case side3 => exact zS (Kd.N_reads' HO275.out).2.2); (case side4 => exact (Kd.N_reads' HO275.out).2.1); (case side5 => exact TabW.below HT.out (zT HB.out GE272.out)); rintro e w22 ⟨rfl, hb⟩; refine ⟨_, rfl, ?_⟩; replace HO0_1 := zA (kG (zPV HO0_1.out) hb); replace HO1 := zA (kG (zPV HO1.out) hb); replace HO275 := zA (kZ (zPN HO275.out) hb); replace BK272 := zA (zB1 BK272.out hb); replace HB := zA (kQ (zT HB.out GE272.out) hb); (try clear hb)))
 go_ret2
 exact ⟨zr, zT HB.out GE272.out⟩

/-! ### laws_FnExactCountPrefixes: function 13 -/
def laws_FnExactCountPrefixes.f (k : Nat) (a0_0 : Int) (l0_1 : List Int) (l1 : List Int) : Option (Bool) := if (l1.length : Int) > 1048576 then (some true) else ((laws_szAlphabet.f a0_0 l0_1 1048576).bind fun t282 => (if t282 < 0 then (some true) else ((laws_toAlphabet.f k a0_0 l0_1).bind fun bt283 => ((laws_toInt64S.f k l1).bind fun t287 => ((spec_CountPrefixes.f k bt283.1 bt283.2 t287).bind fun bt290 => ((laws_toAlphabet.f k a0_0 l0_1).bind fun bt292 => ((laws_toInt64S.f k l1).bind fun t297 => ((impl_CountPrefixes.f k bt292.1 bt292.2 t297).bind fun bt300 => (if bt300.1 = bt290.1 then (if bt300.2 = bt290.2 then ((laws_toAlphabet.f k a0_0 l0_1).bind fun bt302 => ((laws_eqAlphabet.f k bt292.1 bt292.2 bt302.1 bt302.2).bind fun t306 => (if t306 = true then ((laws_toInt64S.f k l1).bind fun t307 => ((laws_eqInt64S.f k t297 t307).bind fun t310 => (if t310 = true then (some true) else (none)))) else (none)))) else (none)) else (none))))))))))

set_option maxHeartbeats 8000000 in
set_option maxRecDepth 100000 in
theorem laws_FnExactCountPrefixes.calls (k : Nat) (a0_0 : Int) (A0_1 : Option Addr) (c0_1 : Nat) (l0_1 : List Int) (A1 : Option Addr) (c1 : Nat) (l1 : List Int) (r : Bool) (w : World) (hr0_1 : Kd.C (Kd.int .i64) w A0_1 l0_1.length l0_1) (hc0_1 : l0_1.length ≤ c0_1) (hr1 : Kd.C (Kd.int .i64) w A1 l1.length l1) (hc1 : l1.length ≤ c1) (hT : TabW w) (h : laws_FnExactCountPrefixes.f k a0_0 l0_1 l1 = some r) :
  Calls Tryd.prog 13 #[.agg #[.int .i64 a0_0, .slice A0_1 l0_1.length c0_1], .slice A1 l1.length c1] w fun e w' => e = .returned (.bool r) ∧ Below w.heap.size w w' := by
 have hu24 := Tryd.underlying24
 have hu29 := Tryd.underlying29
 have HT := zA hT
 clear hT
 have HR0_1 := zA hr0_1
 have HC0_1 := zA hc0_1
 clear hr0_1 hc0_1
 have HR1 := zA hr1
 have HC1 := zA hc1
 clear hr1 hc1
 have HB := zA (kW w.heap.size w)
 have H := h
 unfold laws_FnExactCountPrefixes.f at H
 clear h
 by_cases c3 : (l1.length : Int) > 1048576
 ·rw [if_pos c3] at H
  have c3b0 : decide (1048576 < (l1.length : Int)) = true := decide_eq_true c3
  have c3b1 : decide (1048576 < l1.length) = true := decide_eq_true (by omega)
  clear c3
  obtain rfl := Option.some.inj H
  go_enter Tryd.func13, Tryd.ntmps13
  go_wp2_with (first | (refine zBE 2 #[.int .i64 a0_0, .slice A0_1 l0_1.length c0_1] 24 ?_; intro gb281 hg w4 hbox hb; have BK281 := zA (hbox); have GW281 := zA (zBH hg HB.out); have GE281 := zA (zBH hg HB.out); replace HB := zA (kQ (zQ HB.out) hb); clear hb hbox hg))
  go_ret
  exact ⟨zr, zT HB.out GE281.out⟩
 rw [if_neg c3] at H
 have c3b0 : decide (1048576 < (l1.length : Int)) = false := decide_eq_false c3
 have c3b1 : decide (1048576 < l1.length) = false := decide_eq_false (by omega)
 clear c3
 obtain ⟨t282, A5, H⟩ := zb H
 try dsimp only at H
 by_cases c6 : t282 < 0
 ·rw [if_pos c6] at H
  have c6b0 : decide (t282 < 0) = true := decide_eq_true c6
  clear c6
  obtain rfl := Option.some.inj H
  go_enter Tryd.func13, Tryd.ntmps13
  go_wp2_with (first | (refine zBE 2 #[.int .i64 a0_0, .slice A0_1 l0_1.length c0_1] 24 ?_; intro gb281 hg w7 hbox hb; have BK281 := zA (hbox); have GW281 := zA (zBH hg HB.out); have GE281 := zA (zBH hg HB.out); replace HB := zA (kQ (zQ HB.out) hb); clear hb hbox hg; obtain ⟨hcz8_0, hcz8_1, hfz8_0, hfz8_1⟩ := zB3 BK281.out) | (refine zO (some 17) Tryd.func15 #[.agg #[.int .i64 a0_0, .slice A0_1 l0_1.length c0_1], .int .i64 1048576] ?_; (with_reducible refine (laws_szAlphabet.calls a0_0 _ _ l0_1 1048576 t282 _ ?side1 ?side2 A5.out).mono ?_); (case side1 => exact zS (kO HR0_1.out HB.out)); (case side2 => exact HC0_1.out); rintro e w9 ⟨rfl, hb⟩; refine ⟨_, rfl, ?_⟩; replace BK281 := zA (zB1 BK281.out hb); replace HB := zA (kQ (zT HB.out GE281.out) hb); (try clear hb)))
  go_ret
  exact ⟨zr, zT HB.out GE281.out⟩
 rw [if_neg c6] at H
 have c6b0 : decide (t282 < 0) = false := decide_eq_false c6
 clear c6
 obtain ⟨⟨t283, t284⟩, A10, H⟩ := zb H
 try dsimp only at H
 obtain ⟨t287, A11, H⟩ := zb H
 try dsimp only at H
 obtain ⟨⟨t290, t291⟩, A12, H⟩ := zb H
 try dsimp only at H
 obtain ⟨⟨t292, t293⟩, A13, H⟩ := zb H
 try dsimp only at H
 obtain ⟨t297, A14, H⟩ := zb H
 try dsimp only at H
 obtain ⟨⟨t300, t301⟩, A15, H⟩ := zb H
 try dsimp only at H
 by_cases c16 : t300 = t290
 ·rw [if_pos c16] at H
  obtain ⟨c16b0, c16b1⟩ := zT1 c16
  clear c16
  by_cases c17 : t301 = t291
  ·rw [if_pos c17] at H
   obtain ⟨c17b0, c17b1⟩ := zT1 c17
   clear c17
   obtain ⟨⟨t302, t303⟩, A18, H⟩ := zb H
   try dsimp only at H
   obtain ⟨t306, A19, H⟩ := zb H
   try dsimp only at H
   by_cases c20 : t306 = true
   ·subst c20
    rw [if_pos rfl] at H
    obtain ⟨t307, A21, H⟩ := zb H
    try dsimp only at H
    obtain ⟨t310, A22, H⟩ := zb H
    try dsimp only at H
    by_cases c23 : t310 = true
    ·subst c23
     rw [if_pos rfl] at H
     obtain rfl := Option.some.inj H
     go_enter Tryd.func13, Tryd.ntmps13
     try go_wp2_with (first | (refine zBE 2 #[.int .i64 a0_0, .slice A0_1 l0_1.length c0_1] 24 ?_; intro gb281 hg w24 hbox hb; have BK281 := zA (hbox); have GW281 := zA (zBH hg HB.out); have GE281 := zA (zBH hg HB.out); replace HB := zA (kQ (zQ HB.out) hb); clear hb hbox hg; obtain ⟨hcz25_0, hcz25_1, hfz25_0, hfz25_1⟩ := zB3 BK281.out) | (refine zO (some 17) Tryd.func15 #[.agg #[.int .i64 a0_0, .slice A0_1 l0_1.length c0_1], .int .i64 1048576] ?_; (with_reducible refine (laws_szAlphabet.calls a0_0 _ _ l0_1 1048576 t282 _ ?side1 ?side2 A5.out).mono ?_); (case side1 => exact zS (kO HR0_1.out HB.out)); (case side2 => exact HC0_1.out); rintro e w26 ⟨rfl, hb⟩; refine ⟨_, rfl, ?_⟩; replace BK281 := zA (zB1 BK281.out hb); replace HB := zA (kQ (zT HB.out GE281.out) hb); (try clear hb); obtain ⟨hcz27_0, hcz27_1, hfz27_0, hfz27_1⟩ := zB3 BK281.out) | (refine zO (some 22) Tryd.func17 #[.agg #[.int .i64 a0_0, .slice A0_1 l0_1.length c0_1]] ?_; (with_reducible refine (laws_toAlphabet.calls k a0_0 _ _ l0_1 t283 t284 _ ?side1 ?side2 A10.out).mono ?_); (case side1 => exact zS (kO HR0_1.out HB.out)); (case side2 => exact HC0_1.out); rintro e w28 ⟨v285, rfl, ho0, hb⟩; refine ⟨_, rfl, ?_⟩; have HO286 := zA (kI ho0 (kP (zT HB.out GE281.out))); replace BK281 := zA (zB1 BK281.out hb); replace HB := zA (kQ (zT HB.out GE281.out) hb); (try clear hb); (try clear ho0)) | (refine zO (some 24) Tryd.func18 #[.slice A1 l1.length c1] ?_; (with_reducible refine (laws_toInt64S.calls k _ _ l1 t287 _ ?side1 ?side2 A11.out).mono ?_); (case side1 => exact zS (kO HR1.out HB.out)); (case side2 => exact HC1.out); rintro e w29 ⟨v288, rfl, ho0, hb⟩; refine ⟨_, rfl, ?_⟩; have HO289 := zA (kI (kF ho0 (kH (zP HO286.out))) (kP (zT HB.out GE281.out))); replace HO286 := zA (kE (zP HO286.out) (kC ho0) hb); replace BK281 := zA (zB1 BK281.out hb); replace HB := zA (kQ (zT HB.out GE281.out) hb); (try clear hb); (try clear ho0); obtain ⟨Ao30, co30, eo30⟩ := kM HO286.out; subst eo30; obtain ⟨Ao31, co31, eo31⟩ := kM HO289.out; subst eo31) | (refine zO (some 25) Tryd.func63 #[.agg #[.int .i64 t283, .slice Ao30 t284.length co30], .slice Ao31 t287.length co31] ?_; (with_reducible refine (spec_CountPrefixes.calls k t283 _ _ t284 _ _ t287 t290 t291 _ ?side1 ?side2 ?side3 ?side4 A12.out).mono ?_); (case side1 => exact zS (kB HO286.out).2.2); (case side2 => exact (kB HO286.out).2.1); (case side3 => exact zS (kB HO289.out).2.2); (case side4 => exact (kB HO289.out).2.1); rintro e w32 ⟨rfl, hb⟩; refine ⟨_, rfl, ?_⟩; replace HO286 := zA (kL (zP HO286.out) hb); replace HO289 := zA (kL (zP HO289.out) hb); replace BK281 := zA (zB1 BK281.out hb); replace HB := zA (kQ (zT HB.out GE281.out) hb); (try clear hb); obtain ⟨hcz33_0, hcz33_1, hfz33_0, hfz33_1⟩ := zB3 BK281.out) | (refine zO (some 29) Tryd.func17 #[.agg #[.int .i64 a0_0, .slice A0_1 l0_1.length c0_1]] ?_; (with_reducible refine (laws_toAlphabet.calls k a0_0 _ _ l0_1 t292 t293 _ ?side1 ?side2 A13.out).mono ?_); (case side1 => exact zS (kO HR0_1.out HB.out)); (case side2 => exact HC0_1.out); rintro e w34 ⟨v294, rfl, ho0, hb⟩; refine ⟨_, rfl, ?_⟩; have HO295 := zA (kI (kF (kF ho0 (kH (zP HO286.out))) (kH (zP HO289.out))) (kP (zT HB.out GE281.out))); replace HO286 := zA (kE (zP HO286.out) (kC ho0) hb); replace HO289 := zA (kE (zP HO289.out) (kC ho0) hb); replace BK281 := zA (zB1 BK281.out hb); replace HB := zA (kQ (zT HB.out GE281.out) hb); (try clear hb); (try clear ho0)) | (refine zBE 8 #[.int .i64 0, .slice none 0 0] 29 ?_; intro gb296 hg w35 hbox hb; replace HO286 := zA (kL (zP HO286.out) hb); replace HO289 := zA (kL (zP HO289.out) hb); replace HO295 := zA (kL (zP HO295.out) hb); have BK296 := zA (hbox); have GW296 := zA (zB6 hg (kP (zT HB.out GE281.out)) : w.heap.size ≤ gb296); have GE296 := zA (zB6 hg (kP (zT HB.out GE281.out)) : w.heap.size ≤ gb296); replace HB := zA (kQ (zT HB.out GE281.out) hb); have NB281_296 := zA (zB4 hg BK281.out : gb281 ≠ gb296); have NB296_281 := zA (zB5 hg BK281.out : gb296 ≠ gb281); replace BK281 := zA (zB1 BK281.out hb); clear hb hbox hg; have hnb36 := NB296_281.out; have hnc36 := NB281_296.out; obtain ⟨hcz37_0, hcz37_1, hfz37_0, hfz37_1⟩ := zB3 BK296.out; obtain ⟨Ao38, co38, eo38⟩ := kM HO295.out; subst eo38) | (refine zO (some 31) Tryd.func18 #[.slice A1 l1.length c1] ?_; (with_reducible refine (laws_toInt64S.calls k _ _ l1 t297 _ ?side1 ?side2 A14.out).mono ?_); (case side1 => exact kO HR1.out (zV HB.out GE281.out GE296.out)); (case side2 => exact HC1.out); rintro e w39 ⟨v298, rfl, ho0, hb⟩; refine ⟨_, rfl, ?_⟩; have HO299 := zA (kI (kF (kF (kF ho0 (kH (zP (zFG HO286.out BK296.out (.int .i64 t292) (.slice Ao38 t293.length co38))))) (kH (zP (zFG HO289.out BK296.out (.int .i64 t292) (.slice Ao38 t293.length co38))))) (kH (zP (zFG HO295.out BK296.out (.int .i64 t292) (.slice Ao38 t293.length co38))))) (kP (zV HB.out GE281.out GE296.out))); replace HO286 := zA (kE (zP (zFG HO286.out BK296.out (.int .i64 t292) (.slice Ao38 t293.length co38))) (kC ho0) hb); replace HO289 := zA (kE (zP (zFG HO289.out BK296.out (.int .i64 t292) (.slice Ao38 t293.length co38))) (kC ho0) hb); replace HO295 := zA (kE (zP (zFG HO295.out BK296.out (.int .i64 t292) (.slice Ao38 t293.length co38))) (kC ho0) hb); replace BK281 := zA (blk_below (g := gb281) (o := .cells #[.int .i64 a0_0, .slice A0_1 l0_1.length c0_1] 24 (0, 0)) (zBG BK281.out NB281_296.out NB281_296.out) hb); replace BK296 := zA (blk_below (g := gb296) (o := .cells #[.int .i64 t292, .slice Ao38 t293.length co38] 29 (0, 0)) (zRP BK296.out) hb); replace HB := zA (kQ (zV HB.out GE281.out GE296.out) hb); (try clear hb); (try clear ho0); obtain ⟨hcz40_0, hcz40_1, hfz40_0, hfz40_1⟩ := zB3 BK296.out; obtain ⟨Ao41, co41, eo41⟩ := kM HO299.out; subst eo41) | (refine zO (some 35) Tryd.func64 #[.agg #[.int .i64 t292, .slice Ao38 t293.length co38], .slice Ao41 t297.length co41] ?_; (with_reducible refine (impl_CountPrefixes.calls k t292 (fun k_ => some k_ = (.slice Ao38 t293.length co38 : Value).ownBlock) _ _ t293 (fun k_ => some k_ = (.slice Ao41 t297.length co41 : Value).ownBlock) _ _ t297 t300 t301 _ ?side1 ?side2 ?side3 A15.out).mono ?_); (case side1 => exact jL (jK rfl (kD (kD (HO295.out) BK281.out (by decide)) BK296.out (by decide)))); (case side2 => exact jL (jK rfl (kD (kD (HO299.out) BK281.out (by decide)) BK296.out (by decide)))); (case side3 => exact TabW.below HT.out (zV HB.out GE281.out GE296.out)); rintro e w42 ⟨rfl, hb⟩; refine ⟨_, rfl, ?_⟩; replace HO286 := zA (kL (zP HO286.out) hb); replace HO289 := zA (kL (zP HO289.out) hb); replace HO295 := zA (kL (zP HO295.out) hb); replace HO299 := zA (kL (zP HO299.out) hb); replace BK281 := zA (zB1 BK281.out hb); replace BK296 := zA (zB1 BK296.out hb); replace HB := zA (kQ (zV HB.out GE281.out GE296.out) hb); (try clear hb)))
     replace HO286 := zA (zH HO286.out)
     replace HO289 := zA (zH HO289.out)
     replace HO295 := zA (zH HO295.out)
     replace HO299 := zA (zH HO299.out)
     replace BK281 := zA (zK BK281.out)
     replace BK296 := zA (zK BK296.out)
     replace HB := zA (zD HB.out)
     refine start_ (n := 5) (S := fun w' => w'.cell? ⟨gb296, 0, none⟩ = some (.int .i64 t292) ∧ w'.cell? ⟨gb296, 1, none⟩ = some (.slice Ao38 t293.length co38) ∧ w'.cell? ⟨gb281, 0, none⟩ = some (.int .i64 a0_0) ∧ w'.cell? ⟨gb281, 1, none⟩ = some (.slice A0_1 l0_1.length c0_1)) (ds := []) #[false, false, false, false, false] (by kernel_rfl) rfl rfl ⟨(kV BK296.out 0).trans rfl, (kV BK296.out 1).trans rfl, (kV BK281.out 0).trans rfl, (kV BK281.out 1).trans rfl⟩ (fun hHeld => ?_)
     generalize w42.drew = w43 at HO286 HO289 HO295 HO299 BK281 BK296 HB hHeld ⊢
     refine take_ (i := 0) (N := some 46) (v := ?_) (a' := ?_) #[true, false, false, false, false] rfl rfl (by kernel_rfl) (fun _ _ _ h => h) (Or.inl ⟨by rfl, ?_⟩) hHeld ?_ ?_
     rotate_left
     ·rintro w' ⟨s0, s1, s2, s3⟩
      go_simp
      with_reducible rfl
     rotate_left
     ·simp only [Act.put, zL, zM, zN, i64_w, i32_w]
      rfl
     refine take_ (i := 1) (N := some 47) (v := ?_) (a' := ?_) #[true, true, false, false, false] rfl rfl (by kernel_rfl) (fun _ _ _ h => h) (Or.inl ⟨by rfl, ?_⟩) hHeld ?_ ?_
     rotate_left
     ·rintro w' ⟨s0, s1, s2, s3⟩
      go_simp
      with_reducible rfl
     rotate_left
     ·simp only [Act.put, zL, zM, zN, i64_w, i32_w]
      rfl
     refine one_ (i := 2) (N := some 48) #[true, true, true, false, false] rfl rfl (by kernel_rfl) (by decide) (fun K hK => ?_)
     refine goes_ Tryd.func17 (by kernel_rfl) rfl #[.agg #[.int .i64 a0_0, .slice A0_1 l0_1.length c0_1]] (by rfl) rfl rfl zg ?_
     with_reducible refine (laws_toAlphabet.calls k a0_0 _ _ l0_1 t302 t303 _ ?side1 ?side2 A18.out).mono ?_
     (case side1 => exact zS (kO HR0_1.out HB.out))
     (case side2 => exact HC0_1.out)
     rintro e w44 ⟨v304, rfl, ho0, hb⟩
     refine ⟨_, rfl, ?_⟩
     have HO305 := zA (kI (kF (kF (kF (kF ho0 (kH (zP HO286.out))) (kH (zP HO289.out))) (kH (zP HO295.out))) (kH (zP HO299.out))) (kP (zV HB.out GE281.out GE296.out)))
     replace HO286 := zA (kE (zP HO286.out) (kC ho0) hb)
     replace HO289 := zA (kE (zP HO289.out) (kC ho0) hb)
     replace HO295 := zA (kE (zP HO295.out) (kC ho0) hb)
     replace HO299 := zA (kE (zP HO299.out) (kC ho0) hb)
     replace BK281 := zA (zB1 BK281.out hb)
     replace BK296 := zA (zB1 BK296.out hb)
     replace HB := zA (kQ (zV HB.out GE281.out GE296.out) hb)
     (try clear hb)
     (try clear hb2)
     (try clear hk)
     (try clear hi)
     (try clear hgw)
     (try clear ho0)
     obtain ⟨Ao45, co45, eo45⟩ := kM HO305.out
     (first | subst eo45 | (injection eo45 with f1_ f2_ f3_; have f4_ := f1_.symm; have f5_ := f3_.symm; clear f1_ f2_ f3_; subst f4_; subst f5_))
     refine hK.out _ _ ⟨(kV BK296.out 0).trans rfl, (kV BK296.out 1).trans rfl, (kV BK281.out 0).trans rfl, (kV BK281.out 1).trans rfl⟩ (fun hHeld => ?_)
     clear hK K
     refine norm_ (a' := ?_) ?_ ?_
     rotate_left
     ·show Act.put _ (some 48) _ = _
      simp only [Act.put, zL, zM, zN, i64_w, i32_w]
      rfl
     refine one_ (i := 3) (N := some 49) #[true, true, true, true, false] rfl rfl (by kernel_rfl) (by decide) (fun K hK => ?_)
     refine goes_ Tryd.func21 (by kernel_rfl) rfl #[.agg #[.int .i64 t292, .slice Ao38 t293.length co38], .agg #[.int .i64 t302, .slice Ao45 t303.length co45]] (by rfl) rfl rfl zg ?_
     with_reducible refine (laws_eqAlphabet.calls k t292 _ _ t293 t302 _ _ t303 true _ ?side1 ?side2 ?side3 ?side4 A19.out).mono ?_
     (case side1 => exact zS (kB HO295.out).2.2)
     (case side2 => exact (kB HO295.out).2.1)
     (case side3 => exact zS (kB HO305.out).2.2)
     (case side4 => exact (kB HO305.out).2.1)
     rintro e w46 ⟨rfl, hb⟩
     refine ⟨_, rfl, ?_⟩
     replace HO286 := zA (kL (zP HO286.out) hb)
     replace HO289 := zA (kL (zP HO289.out) hb)
     replace HO295 := zA (kL (zP HO295.out) hb)
     replace HO299 := zA (kL (zP HO299.out) hb)
     replace HO305 := zA (kL (zP HO305.out) hb)
     replace BK281 := zA (zB1 BK281.out hb)
     replace BK296 := zA (zB1 BK296.out hb)
     replace HB := zA (kQ (zV HB.out GE281.out GE296.out) hb)
     (try clear hb)
     (try clear hb2)
     (try clear hk)
     (try clear hi)
     (try clear hgw)
     refine hK.out _ _ ⟨(kV BK296.out 0).trans rfl, (kV BK296.out 1).trans rfl, (kV BK281.out 0).trans rfl, (kV BK281.out 1).trans rfl⟩ (fun hHeld => ?_)
     clear hK K
     refine norm_ (a' := ?_) ?_ ?_
     rotate_left
     ·show Act.put _ (some 49) _ = _
      simp only [Act.put, zL, zM, zN, i64_w, i32_w]
      rfl
     refine pure_ (i := 4) (N := some 50) (v := ?_) (a' := ?_) #[true, true, true, true, true] rfl rfl (by kernel_rfl) (fun _ _ _ h => h) (Or.inl ⟨by rfl, ?_⟩) ?_ ?_
     rotate_left
     ·intro w'
      go_simp
      with_reducible rfl
     rotate_left
     ·simp only [Act.put, zL, zM, zN, i64_w, i32_w]
      rfl
     refine done_ (by kernel_rfl) ?_
     try go_wp2_with (first | (refine zO (some 53) Tryd.func18 #[.slice A1 l1.length c1] ?_; (with_reducible refine (laws_toInt64S.calls k _ _ l1 t307 _ ?side1 ?side2 A21.out).mono ?_); (case side1 => exact zS (kO HR1.out HB.out)); (case side2 => exact HC1.out); rintro e w47 ⟨v308, rfl, ho0, hb⟩; refine ⟨_, rfl, ?_⟩; have HO309 := zA (kI (kF (kF (kF (kF (kF ho0 (kH (zP HO286.out))) (kH (zP HO289.out))) (kH (zP HO295.out))) (kH (zP HO299.out))) (kH (zP HO305.out))) (kP (zV HB.out GE281.out GE296.out))); replace HO286 := zA (kE (zP HO286.out) (kC ho0) hb); replace HO289 := zA (kE (zP HO289.out) (kC ho0) hb); replace HO295 := zA (kE (zP HO295.out) (kC ho0) hb); replace HO299 := zA (kE (zP HO299.out) (kC ho0) hb); replace HO305 := zA (kE (zP HO305.out) (kC ho0) hb); replace BK281 := zA (zB1 BK281.out hb); replace BK296 := zA (zB1 BK296.out hb); replace HB := zA (kQ (zV HB.out GE281.out GE296.out) hb); (try clear hb); (try clear ho0); obtain ⟨Ao48, co48, eo48⟩ := kM HO309.out; subst eo48) | (refine zO (some 54) Tryd.func22 #[.slice Ao41 t297.length co41, .slice Ao48 t307.length co48] ?_; (with_reducible refine (laws_eqInt64S.calls k _ _ t297 _ _ t307 true _ ?side1 ?side2 ?side3 ?side4 A22.out).mono ?_); (case side1 => exact zS (kB HO299.out).2.2); (case side2 => exact (kB HO299.out).2.1); (case side3 => exact zS (kB HO309.out).2.2); (case side4 => exact (kB HO309.out).2.1); rintro e w' ⟨rfl, ⟨nd, rfl⟩⟩; refine ⟨_, rfl, ?_⟩))
     go_ret
     exact ⟨zr, zV HB.out GE281.out GE296.out⟩
    replace c23 := Bool.eq_false_iff.mpr c23
    subst c23
    rw [if_neg (show ¬ (false = true) by decide)] at H
    exact absurd H (by simp)
   replace c20 := Bool.eq_false_iff.mpr c20
   subst c20
   rw [if_neg (show ¬ (false = true) by decide)] at H
   exact absurd H (by simp)
  rw [if_neg c17] at H
  exact absurd H (by simp)
 rw [if_neg c16] at H
 exact absurd H (by simp)

end Go.Proofs.YthgapkbkhoeleaaDoor.PAll
