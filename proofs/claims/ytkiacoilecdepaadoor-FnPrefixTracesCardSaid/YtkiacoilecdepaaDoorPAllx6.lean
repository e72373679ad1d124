-- Printed by a program of the session (wip/tools/pgen.py) out of the translation. Not trusted: Lean checks it.
import Derived.Test.YtkiacoilecdepaaDoorPAllx0
import Derived.Test.YtkiacoilecdepaaDoorPAllx1
namespace Go.Proofs.YtkiacoilecdepaaDoor.PAll
open Go.RowKit Go.Proofs.YtkiacoilecdepaaDoor.T Go.Proofs.YtkiacoilecdepaaDoorW.PrintWords Go.Proofs.YtkiacoilecdepaaDoorW.PrintLast Go.Proofs.YtkiacoilecdepaaDoorW.PrintMore
attribute [local go_sem] max2_int min2_int max_two min_two max_three min_three max_four min_four   -- for this text's walks alone
set_option linter.unusedVariables false
set_option linter.unusedSimpArgs false

/-! ### impl_ties_quotient: function 59 -/
def impl_ties_quotient.l0 : Nat → List Int → List Int → List Int → Int → Int → Option (List Int × Bool)
 | 0, _, _, _, _, _ => none
 | k + 1, x0, x2, x10, x11, x12 => if x12 < x11 then (if 0 ≤ x12 then (if x12 < (x10.length : Int) then ((impl_ties_firsts.f k x0 x2).bind fun t160 => ((impl_has.f t160 (rd x10 x12)).bind fun t161 => (if t161 = true then ((impl_withoutFirst.f k x2 (rd x10 x12)).bind fun t162 => (impl_ties_quotient.l0 k x0 t162 x10 x11 (wrap64 (x12 + 1)))) else (some (([] : List Int), false))))) else (none)) else (none)) else (some (x2, true))
def impl_ties_quotient.f (k : Nat) (l0 : List Int) (l1 : List Int) (l2 : List Int) : Option (List Int × Bool) := impl_ties_quotient.l0 k l0 l2 l1 (l1.length : Int) 0

set_option maxHeartbeats 8000000 in
set_option maxRecDepth 100000 in
theorem impl_ties_quotient.calls (k : Nat) (A0 : Option Addr) (c0 : Nat) (l0 : List Int) (A1 : Option Addr) (c1 : Nat) (l1 : List Int) (P2_ : Nat → Prop) (A2 : Option Addr) (c2 : Nat) (l2 : List Int) (r1 : List Int) (r2 : Bool) (w : World) (hr0 : Kd.C (Kd.int .i64) w A0 l0.length l0) (hc0 : l0.length ≤ c0) (hr1 : Kd.C (Kd.int .i64) w A1 l1.length l1) (hc1 : l1.length ≤ c1) (hs2 : Kd.V (Kd.int .i64) 2 w w.heap.size (fun k_ => P2_ k_) (.slice A2 l2.length c2) l2) (h : impl_ties_quotient.f k l0 l1 l2 = some (r1, r2)) :
  Calls Tryd.prog 59 #[.slice A0 l0.length c0, .slice A1 l1.length c1, .slice A2 l2.length c2] w fun e w' => ∃ v0_ : Value, e = .returned (.tuple #[v0_, .bool r2]) ∧ Kd.V (Kd.int .i64) 2 w' w.heap.size (fun k_ => (P2_ k_ ∨ w.heap.size ≤ k_)) v0_ r1 ∧ Below w.heap.size w w' := by
 have HR0 := zA hr0
 have HC0 := zA hc0
 clear hr0 hc0
 have HR1 := zA hr1
 have HC1 := zA hc1
 clear hr1 hc1
 have HO2 := zA (show Kd.V (Kd.int .i64) 2 w w.heap.size (fun k_ => (P2_ k_ ∨ w.heap.size ≤ k_)) (.slice A2 l2.length c2) l2 from Kd.V_mono hs2 (fun k_ hk => .inl hk))
 have HB := zA (Below.refl w.heap.size w)
 have H : (impl_ties_quotient.l0 k l0 l2 l1 (l1.length : Int) 0) = some (r1, r2) := h
 clear h
 have H' := zA H
 clear H
 go_enter Tryd.func59, Tryd.ntmps59
 go_wp2
 go_loopg [2, 12] k (fun kq v2 v12 w' => ∃ (x2_1 : List Int) (x12_1 : Int), v12 = .int .i64 x12_1 ∧ Aside0 (impl_ties_quotient.l0 kq l0 x2_1 l1 (l1.length : Int) x12_1 = some (r1, r2)) ∧ Aside0 (kq ≤ k) ∧ Aside0 (Kd.V (Kd.int .i64) 2 w' w.heap.size (fun k_ => (P2_ k_ ∨ w.heap.size ≤ k_)) v2 x2_1) ∧ Aside0 (Below w.heap.size w w'))
 case atStart => exact ⟨(l2), (0), (by first | rfl | (simp; done) | (simp [*]; done)), H', ⟨Nat.le_refl _⟩, ⟨by (with_reducible repeat (first | apply Kd.V_alloc | apply Kd.V_drewN | apply Kd.V_drew)); exact HO2.out⟩, ⟨zQ HB.out⟩⟩
 case round =>
  clear H'
  try clear c1
  try clear c2
  try clear p2
  obtain ⟨x2_1, x12_1, rfl, HA, HK1, HO_2, HB⟩ := hrel
  cases gk with
  | zero => exact absurd HA.out (by simp [impl_ties_quotient.l0])
  | succ k1 =>
   have H := HA.out
   clear HA
   simp only [impl_ties_quotient.l0] at H
   by_cases c4 : x12_1 < (l1.length : Int)
   ·rw [if_pos c4] at H
    have c4b0 : decide (x12_1 < (l1.length : Int)) = true := decide_eq_true c4
    clear c4
    by_cases c5 : 0 ≤ x12_1
    ·rw [if_pos c5] at H
     have c5b0 : decide (0 ≤ x12_1) = true := decide_eq_true c5
     clear c5
     by_cases c6 : x12_1 < (l1.length : Int)
     ·rw [if_pos c6] at H
      have c6b0 : decide (x12_1 < (l1.length : Int)) = true := decide_eq_true c6
      clear c6
      obtain ⟨t160, A7, H⟩ := zb H
      try dsimp only at H
      obtain ⟨t161, A8, H⟩ := zb H
      try dsimp only at H
      by_cases c9 : t161 = true
      ·subst c9
       have H1 : ((impl_withoutFirst.f k1 x2_1 (rd l1 x12_1)).bind fun t162 => (impl_ties_quotient.l0 k1 l0 t162 l1 (l1.length : Int) (wrap64 (x12_1 + 1)))) = some (r1, r2) := by rw [if_pos rfl] at H; exact H
       clear H
       have H := H1
       clear H1
       obtain ⟨t162, A10, H⟩ := zb H
       try dsimp only at H
       have H' := zA H
       clear H
       have p159 : 0 ≤ (x12_1 : Int) := zd
       have q159 : x12_1 < (l1.length : Int) := zd
       obtain ⟨ad159, e159, hx159_0⟩ := Kd.at_int HR1.out x12_1 p159 q159
       cases e159
       replace hx159_0 := (HB.out.cell (World.block_lt_of_cell? w _ hx159_0)).trans hx159_0
       replace p159 := eq_true p159
       replace q159 := eq_true q159
       obtain ⟨Ao11, co11, eo11⟩ := Kd.V_slice HO_2.out
       subst eo11
       go_wp2_with (first | ((with_reducible refine gate_callee (f := 51) rfl ?_); refine zO (some 18) Tryd.func51 #[.slice A0 l0.length c0, .slice Ao11 x2_1.length co11] ?_; (with_reducible refine (impl_ties_firsts.calls k1 _ _ l0 _ _ x2_1 t160 _ ?side1 ?side2 ?side3 ?side4 A7.out).mono ?_); (case side1 => exact zS (Kd.C_below HR0.out HB.out)); (case side2 => exact HC0.out); (case side3 => exact zS (Kd.V_reads' HO_2.out).2.2); (case side4 => exact (Kd.V_reads' HO_2.out).2.1); rintro e w' ⟨rfl, ⟨nd, rfl⟩⟩; refine ⟨_, rfl, ?_⟩) | ((with_reducible refine gate_callee (f := 104) rfl ?_); refine zO (some 20) Tryd.func104 #[.int .i64 t160, .int .i64 (rd l1 x12_1)] ?_; (with_reducible refine (impl_has.calls t160 (rd l1 x12_1) true _ A8.out).mono ?_); rintro e w' ⟨rfl, ⟨nd, rfl⟩⟩; refine ⟨_, rfl, ?_⟩) | ((with_reducible refine gate_callee (f := 63) rfl ?_); refine zO (some 24) Tryd.func63 #[.slice Ao11 x2_1.length co11, .int .i64 (rd l1 x12_1)] ?_; (with_reducible refine (impl_withoutFirst.calls k1 (fun k_ => (P2_ k_ ∨ w.heap.size ≤ k_)) _ _ x2_1 (rd l1 x12_1) t162 _ ?side1 A10.out).mono ?_); (case side1 => exact HO_2.out); rintro e w12 ⟨v163, rfl, ho0, hb⟩; refine ⟨_, rfl, ?_⟩; replace HO_2 := zA (Kd.V_elder' (zPV HO_2.out) (Kd.R_base ho0) hb); have HO164 := zA (Kd.R_lower (Kd.R_newM (M := fun k_ => (w.heap.size ≤ k_)) (Kd.R_mono (ok' := fun k_ => True) ho0 (fun _ hk_ => trivial)) (below_size (zQ HB.out)) (fun k_ h_ => h_)) (below_size (zQ HB.out))); replace HB := zA (below_step (zQ HB.out) hb); (try clear hb); (try clear ho0)))
       go_roundg k1
       case measure => have := HK1.out; omega
       case rel => exact ⟨(t162), (wrap64 (x12_1 + 1)), (by first | rfl | (simp; done) | (simp [*]; done)), H', ⟨by have := HK1.out; omega⟩, ⟨Kd.V_mono (Kd.R_V (zP HO164.out)) (fun k_ hk => by first | exact (.inr (hk.1)) | exact ⟨(.inr (hk.1)), hk.2⟩ | exact (.inr (hk)))⟩, ⟨zQ HB.out⟩⟩
      replace c9 := Bool.eq_false_iff.mpr c9
      subst c9
      have H1 : (some (([] : List Int), false)) = some (r1, r2) := by rw [if_neg (show ¬ (false = true) by decide)] at H; exact H
      clear H
      have H := H1
      clear H1
      simp only [Option.some.injEq, Prod.mk.injEq] at H
      obtain ⟨rfl, rfl⟩ := H
      have p159 : 0 ≤ (x12_1 : Int) := zd
      have q159 : x12_1 < (l1.length : Int) := zd
      obtain ⟨ad159, e159, hx159_0⟩ := Kd.at_int HR1.out x12_1 p159 q159
      cases e159
      replace hx159_0 := (HB.out.cell (World.block_lt_of_cell? w _ hx159_0)).trans hx159_0
      replace p159 := eq_true p159
      replace q159 := eq_true q159
      obtain ⟨Ao13, co13, eo13⟩ := Kd.V_slice HO_2.out
      subst eo13
      go_wp2_with (first | ((with_reducible refine gate_callee (f := 51) rfl ?_); refine zO (some 18) Tryd.func51 #[.slice A0 l0.length c0, .slice Ao13 x2_1.length co13] ?_; (with_reducible refine (impl_ties_firsts.calls k1 _ _ l0 _ _ x2_1 t160 _ ?side1 ?side2 ?side3 ?side4 A7.out).mono ?_); (case side1 => exact zS (Kd.C_below HR0.out HB.out)); (case side2 => exact HC0.out); (case side3 => exact zS (Kd.V_reads' HO_2.out).2.2); (case side4 => exact (Kd.V_reads' HO_2.out).2.1); rintro e w' ⟨rfl, ⟨nd, rfl⟩⟩; refine ⟨_, rfl, ?_⟩) | ((with_reducible refine gate_callee (f := 104) rfl ?_); refine zO (some 20) Tryd.func104 #[.int .i64 t160, .int .i64 (rd l1 x12_1)] ?_; (with_reducible refine (impl_has.calls t160 (rd l1 x12_1) false _ A8.out).mono ?_); rintro e w' ⟨rfl, ⟨nd, rfl⟩⟩; refine ⟨_, rfl, ?_⟩))
      go_ret2
      exact ⟨_, zr, zn, zQ HB.out⟩
     rw [if_neg c6] at H
     exact absurd H (by simp)
    rw [if_neg c5] at H
    exact absurd H (by simp)
   rw [if_neg c4] at H
   have c4b0 : decide (x12_1 < (l1.length : Int)) = false := decide_eq_false c4
   clear c4
   simp only [Option.some.injEq, Prod.mk.injEq] at H
   obtain ⟨rfl, rfl⟩ := H
   go_wp2
   go_ret2
   exact ⟨_, zr, by (with_reducible repeat (first | apply Kd.V_alloc | apply Kd.V_drewN | apply Kd.V_drew)); exact HO_2.out, zQ HB.out⟩

end Go.Proofs.YtkiacoilecdepaaDoor.PAll
