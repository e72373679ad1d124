-- Printed by a program of the session (wip/tools/pgen.py) out of the translation. Not trusted: Lean checks it.
import Derived.Test.YtpenijicdldipaaDoorPAllx0
import Derived.Test.YtpenijicdldipaaDoorPAllx2
import Derived.Test.YtpenijicdldipaaDoorPAllx4
namespace Go.Proofs.YtpenijicdldipaaDoor.PAll
open Go.RowKit Go.Proofs.YtpenijicdldipaaDoor.T Go.Proofs.YtpenijicdldipaaDoorW.PrintWords Go.Proofs.YtpenijicdldipaaDoorW.PrintLast Go.Proofs.YtpenijicdldipaaDoorW.PrintMore
attribute [local go_sem] max2_int min2_int max_two min_two max_three min_three max_four min_four   -- for this text's walks alone
set_option linter.unusedVariables false
set_option linter.unusedSimpArgs false

/-! ### laws_szInt64S: function 26 -/
def laws_szInt64S.f (l0 : List Int) (a1 : Int) : Option (Int) := if (wrap64 (a1 - (l0.length : Int))) < 0 then (some (-1)) else (some (wrap64 (a1 - (l0.length : Int))))
set_option maxHeartbeats 8000000 in
set_option maxRecDepth 100000 in
theorem laws_szInt64S.calls (A0 : Option Addr) (c0 : Nat) (l0 : List Int) (a1 : Int) (r : Int) (w : World) (hr0 : Kd.C (Kd.int .i64) w A0 l0.length l0) (hc0 : l0.length ≤ c0) (h : laws_szInt64S.f l0 a1 = some r) :
  Calls Tryd.prog 26 #[.slice A0 l0.length c0, .int .i64 a1] w fun e w' => e = .returned (.int .i64 r) ∧ Drawn0 w w' := by
 have HR0 := zA hr0
 have HC0 := zA hc0
 clear hr0 hc0
 have H := h
 unfold laws_szInt64S.f at H
 clear h
 by_cases c3 : (wrap64 (a1 - (l0.length : Int))) < 0
 ·rw [if_pos c3] at H
  have c3b0 : decide ((wrap64 (a1 - (l0.length : Int))) < 0) = true := decide_eq_true c3
  clear c3
  obtain rfl := Option.some.inj H
  go_enter Tryd.func26, Tryd.ntmps26
  go_wp2
  go_ret
  exact ⟨zs, by repeat (first | exact Drawn0.refl _ | apply Drawn0.step)⟩
 rw [if_neg c3] at H
 have c3b0 : decide ((wrap64 (a1 - (l0.length : Int))) < 0) = false := decide_eq_false c3
 clear c3
 obtain rfl := Option.some.inj H
 go_enter Tryd.func26, Tryd.ntmps26
 go_wp2
 go_ret
 exact ⟨zs, by repeat (first | exact Drawn0.refl _ | apply Drawn0.step)⟩

/-! ### laws_szAlphabet: function 5 -/
def laws_szAlphabet.f (a0_0 : Int) (l0_1 : List Int) (a1 : Int) : Option (Int) := (laws_szInt64S.f l0_1 a1).bind fun t102 => (if t102 < 0 then (some (-1)) else (some t102))
set_option maxHeartbeats 8000000 in
set_option maxRecDepth 100000 in
theorem laws_szAlphabet.calls (a0_0 : Int) (A0_1 : Option Addr) (c0_1 : Nat) (l0_1 : List Int) (a1 : Int) (r : Int) (w : World) (hr0_1 : Kd.C (Kd.int .i64) w A0_1 l0_1.length l0_1) (hc0_1 : l0_1.length ≤ c0_1) (h : laws_szAlphabet.f a0_0 l0_1 a1 = some r) :
  Calls Tryd.prog 5 #[.agg #[.int .i64 a0_0, .slice A0_1 l0_1.length c0_1], .int .i64 a1] w fun e w' => e = .returned (.int .i64 r) ∧ Below w.heap.size w w' := by
 have hu24 := Tryd.underlying24
 have HR0_1 := zA hr0_1
 have HC0_1 := zA hc0_1
 clear hr0_1 hc0_1
 have HB := zA (kW w.heap.size w)
 have H := h
 unfold laws_szAlphabet.f at H
 clear h
 obtain ⟨t102, A3, H⟩ := zb H
 try dsimp only at H
 by_cases c4 : t102 < 0
 ·rw [if_pos c4] at H
  have c4b0 : decide (t102 < 0) = true := decide_eq_true c4
  clear c4
  obtain rfl := Option.some.inj H
  go_enter Tryd.func5, Tryd.ntmps5
  go_wp2_with (first | (refine zBE 2 #[.int .i64 a0_0, .slice A0_1 l0_1.length c0_1] 24 ?_; intro gb101 hg w5 hbox hb; have BK101 := zA (hbox); have GW101 := zA (zBH hg HB.out); have GE101 := zA (zBH hg HB.out); replace HB := zA (kQ (zQ HB.out) hb); clear hb hbox hg; obtain ⟨hcz6_0, hcz6_1, hfz6_0, hfz6_1⟩ := zB3 BK101.out) | (refine zO (some 8) Tryd.func26 #[.slice A0_1 l0_1.length c0_1, .int .i64 a1] ?_; (with_reducible refine (laws_szInt64S.calls _ _ l0_1 a1 t102 _ ?side1 ?side2 A3.out).mono ?_); (case side1 => exact zS (kO HR0_1.out HB.out)); (case side2 => exact HC0_1.out); rintro e w' ⟨rfl, ⟨nd, rfl⟩⟩; refine ⟨_, rfl, ?_⟩))
  go_ret
  exact ⟨zr, zT HB.out GE101.out⟩
 rw [if_neg c4] at H
 have c4b0 : decide (t102 < 0) = false := decide_eq_false c4
 clear c4
 obtain rfl := Option.some.inj H
 go_enter Tryd.func5, Tryd.ntmps5
 go_wp2_with (first | (refine zBE 2 #[.int .i64 a0_0, .slice A0_1 l0_1.length c0_1] 24 ?_; intro gb101 hg w7 hbox hb; have BK101 := zA (hbox); have GW101 := zA (zBH hg HB.out); have GE101 := zA (zBH hg HB.out); replace HB := zA (kQ (zQ HB.out) hb); clear hb hbox hg; obtain ⟨hcz8_0, hcz8_1, hfz8_0, hfz8_1⟩ := zB3 BK101.out) | (refine zO (some 8) Tryd.func26 #[.slice A0_1 l0_1.length c0_1, .int .i64 a1] ?_; (with_reducible refine (laws_szInt64S.calls _ _ l0_1 a1 t102 _ ?side1 ?side2 A3.out).mono ?_); (case side1 => exact zS (kO HR0_1.out HB.out)); (case side2 => exact HC0_1.out); rintro e w' ⟨rfl, ⟨nd, rfl⟩⟩; refine ⟨_, rfl, ?_⟩))
 go_ret
 exact ⟨zr, zT HB.out GE101.out⟩

/-! ### laws_toInt64S: function 8 -/
def laws_toInt64S.l0 : Nat → List Int → List Int → Int → Option (List Int)
 | 0, _, _, _ => none
 | k + 1, x0, x3, x4 => if x4 < (x0.length : Int) then (if 0 ≤ x4 then (if x4 < (x3.length : Int) then (laws_toInt64S.l0 k x0 (x3.set (x4 : Int).toNat (rd x0 x4)) (wrap64 (x4 + 1))) else (none)) else (none)) else (some x3)
def laws_toInt64S.f (k : Nat) (l0 : List Int) : Option (List Int) := if 0 ≤ (l0.length : Int) then (if ((l0.length : Int) : Int).toNat ≤ 35184372088832 then (laws_toInt64S.l0 k l0 (List.replicate ((l0.length : Int) : Int).toNat 0) 0) else (none)) else (none)

set_option maxHeartbeats 8000000 in
set_option maxRecDepth 100000 in
theorem laws_toInt64S.calls (k : Nat) (A0 : Option Addr) (c0 : Nat) (l0 : List Int) (r : List Int) (w : World) (hr0 : Kd.C (Kd.int .i64) w A0 l0.length l0) (hc0 : l0.length ≤ c0) (h : laws_toInt64S.f k l0 = some r) :
  Calls Tryd.prog 8 #[.slice A0 l0.length c0] w fun e w' => ∃ v0_ : Value, e = .returned (v0_) ∧ Kd.R (Kd.int .i64) 2 w' w.heap.size (fun _ => True) v0_ r ∧ Below w.heap.size w w' := by
 have HR0 := zA hr0
 have HC0 := zA hc0
 clear hr0 hc0
 have HB := zA (kW w.heap.size w)
 have H := h
 unfold laws_toInt64S.f at H
 clear h
 by_cases c2 : 0 ≤ (l0.length : Int)
 ·rw [if_pos c2] at H
  have c2b0 := eq_true c2
  have c2b1 : decide (0 ≤ (l0.length : Int)) = true := decide_eq_true c2
  clear c2
  by_cases c3 : ((l0.length : Int) : Int).toNat ≤ 35184372088832
  ·rw [if_pos c3] at H
   have c3b0 := eq_true c3
   have c3b1 : decide (((l0.length : Int) : Int).toNat ≤ 35184372088832) = true := decide_eq_true c3
   clear c3
   obtain ⟨y213, hy213⟩ : ∃ y_ : List Int, y_ = (List.replicate ((l0.length : Int) : Int).toNat 0) := ⟨_, rfl⟩
   replace H : (laws_toInt64S.l0 k l0 y213 0) = some r := zy hy213 H
   have Ny213 := zA hy213
   clear hy213
   have H' := zA H
   clear H
   go_enter Tryd.func8, Tryd.ntmps8
   go_wp2_with (first | ((with_reducible refine kS (N := 7) rfl ?_); refine Kd.R_make (Kd.int .i64) _ 2 rfl (N := 7) rfl 22 _ _ rfl (l0.length : Int) rfl rfl Tryd.underlying22 (.int .i64 0) 8 info2 rfl (by decide) (by omega) 0 (ok := fun _ => True) (okp := fun _ => True) rfl (fun _ hk => hk) trivial (zd) (Nat.le_trans (Nat.mul_le_mul_right _ (zd : (l0.length : Int).toNat ≤ 35184372088832)) (by omega)) (kW _ _) (Nat.le_refl _) ?_; intro v214 w4 ho5 hb hg_ hnew_; clear hg_ hnew_; (first | rw [← Ny213.out] at ho5 | (simp only [Int.reduceToNat] at ho5; rw [← Ny213.out] at ho5)); have HO215 := zA (kI ho5 (kP (zQ HB.out))); replace HB := zA (kQ (zQ HB.out) hb); clear hb ho5))
   go_loopg [4] k (fun kq v4 w' => ∃ (x3_1 : List Int) (x4_1 : Int), v4 = .int .i64 x4_1 ∧ Aside0 (laws_toInt64S.l0 kq l0 x3_1 x4_1 = some r) ∧ Aside0 (kq ≤ k) ∧ Aside0 (Kd.R (Kd.int .i64) 2 w' w.heap.size (fun _ => True) v214 x3_1) ∧ Aside0 (Below w.heap.size w w'))
   case atStart => exact ⟨(y213), (0), zs, H', ⟨Nat.le_refl _⟩, ⟨zP HO215.out⟩, ⟨zQ HB.out⟩⟩
   case round =>
    clear H'
    try clear c2
    try clear c3
    obtain ⟨x3_1, x4_1, rfl, HA, HK1, HO_3, HB⟩ := hrel
    cases gk with
    | zero => exact absurd HA.out (by simp [laws_toInt64S.l0])
    | succ k1 =>
     have H := HA.out
     clear HA
     simp only [laws_toInt64S.l0] at H
     by_cases c6 : x4_1 < (l0.length : Int)
     ·rw [if_pos c6] at H
      have c6b0 : decide (x4_1 < (l0.length : Int)) = true := decide_eq_true c6
      clear c6
      by_cases c7 : 0 ≤ x4_1
      ·rw [if_pos c7] at H
       have c7b0 : decide (0 ≤ x4_1) = true := decide_eq_true c7
       clear c7
       by_cases c8 : x4_1 < (x3_1.length : Int)
       ·rw [if_pos c8] at H
        have c8b0 : decide (x4_1 < (x3_1.length : Int)) = true := decide_eq_true c8
        clear c8
        obtain ⟨y217, hy217⟩ : ∃ y_ : List Int, y_ = (x3_1.set (x4_1 : Int).toNat (rd l0 x4_1)) := ⟨_, rfl⟩
        replace H : (laws_toInt64S.l0 k1 l0 y217 (wrap64 (x4_1 + 1))) = some r := zy hy217 H
        have Ny217 := zA hy217
        clear hy217
        have H' := zA H
        clear H
        have p216 : 0 ≤ (x4_1 : Int) := zd
        have q216 : x4_1 < (l0.length : Int) := zd
        obtain ⟨ad216, e216, hx216_0⟩ := Kd.at_int HR0.out x4_1 p216 q216
        cases e216
        replace hx216_0 := (HB.out.cell (jG w _ hx216_0)).trans hx216_0
        replace p216 := eq_true p216
        replace q216 := eq_true q216
        have p9 : 0 ≤ (x4_1 : Int) := zd
        have q9 : (x4_1 : Int) < ((x3_1.length : Int) : Int) := zd
        obtain ⟨go9, co9, eo9, gb9, gl9, cl9, HG9⟩ := Kd.R_form HO_3.out (by omega)
        (first | cases eo9 | (injection eo9 with ea_ en_ ec_; (first | subst ea_ | (injection ea_ with ea_; subst ea_)); subst ec_; clear en_))
        have GB9 := zA gb9
        have GG9 := zA HG9
        clear gb9 gl9 HG9
        obtain ⟨hx9_0, hf9_0⟩ := Kd.R_celln 0 HO_3.out (x4_1 : Int) p9 q9
        replace p9 := eq_true p9
        replace q9 := eq_true q9
        have HP10 := Kd.R_putg HO_3.out (x4_1 : Int) (rd l0 x4_1)
        go_wp2_with (first | ((with_reducible refine gate_store (t := 2) (p := 20) rfl ?_); refine store_event (t := 2) (p := 20) (v := ?vo_w11) (w1 := (wr.setCell ⟨go9, (x4_1 : Int).toNat, none⟩ (.int .i64 (rd l0 x4_1)))) ?hg ?ho ?hn ?hr ?_; (case ho => rfl); (case hg => rfl); (case hn => rfl); (case hr => first | (go_simp; done) | (go_simp; rfl)); intro w11 hw; have hg : wr.grownBy w11 (some go9) := (by rw [hw]; exact HP10.2); have hp_ : Kd.R (Kd.int .i64) 2 w11 w.heap.size (fun _ => True) (.slice (some ⟨go9, 0, none⟩) x3_1.length co9) y217 := (by rw [hw, Ny217.out]; exact HP10.1); clear HP10; replace HO_3 := zA (hp_); replace HB := zA ((by rw [hw]; exact zE (HB.out) GB9.out : Below w.heap.size w w11)); clear hg hw hp_))
        go_roundg k1
        case measure => have := HK1.out; omega
        case rel => exact ⟨(y217), (wrap64 (x4_1 + 1)), zs, H', ⟨by have := HK1.out; omega⟩, ⟨zP HO_3.out⟩, ⟨zQ HB.out⟩⟩
       rw [if_neg c8] at H
       exact absurd H (by simp)
      rw [if_neg c7] at H
      exact absurd H (by simp)
     rw [if_neg c6] at H
     have c6b0 : decide (x4_1 < (l0.length : Int)) = false := decide_eq_false c6
     clear c6
     obtain rfl := Option.some.inj H
     go_wp2
     go_ret
     exact ⟨_, zr, zP HO_3.out, zQ HB.out⟩
  rw [if_neg c3] at H
  exact absurd H (by simp)
 rw [if_neg c2] at H
 exact absurd H (by simp)

/-! ### laws_toAlphabet: function 7 -/
def laws_toAlphabet.f (k : Nat) (a0_0 : Int) (l0_1 : List Int) : Option (Int × List Int) := (laws_toInt64S.f k l0_1).bind fun t221 => (some (a0_0, t221))

set_option maxHeartbeats 8000000 in
set_option maxRecDepth 100000 in
theorem laws_toAlphabet.calls (k : Nat) (a0_0 : Int) (A0_1 : Option Addr) (c0_1 : Nat) (l0_1 : List Int) (r1 : Int) (r2 : List Int) (w : World) (hr0_1 : Kd.C (Kd.int .i64) w A0_1 l0_1.length l0_1) (hc0_1 : l0_1.length ≤ c0_1) (h : laws_toAlphabet.f k a0_0 l0_1 = some (r1, r2)) :
  Calls Tryd.prog 7 #[.agg #[.int .i64 a0_0, .slice A0_1 l0_1.length c0_1]] w fun e w' => ∃ v1_ : Value, e = .returned (.agg #[.int .i64 r1, v1_]) ∧ Kd.R (Kd.int .i64) 2 w' w.heap.size (fun _ => True) v1_ r2 ∧ Below w.heap.size w w' := by
 have hu24 := Tryd.underlying24
 have hu28 := Tryd.underlying28
 have HR0_1 := zA hr0_1
 have HC0_1 := zA hc0_1
 clear hr0_1 hc0_1
 have HB := zA (kW w.heap.size w)
 have H := h
 unfold laws_toAlphabet.f at H
 clear h
 obtain ⟨t221, A2, H⟩ := zb H
 try dsimp only at H
 simp only [Option.some.injEq, Prod.mk.injEq] at H
 obtain ⟨rfl, rfl⟩ := H
 go_enter Tryd.func7, Tryd.ntmps7
 go_wp2_with (first | (refine zBE 1 #[.int .i64 a0_0, .slice A0_1 l0_1.length c0_1] 24 ?_; intro gb218 hg w3 hbox hb; have BK218 := zA (hbox); have GW218 := zA (zBH hg HB.out); have GE218 := zA (zBH hg HB.out); replace HB := zA (kQ (zQ HB.out) hb); clear hb hbox hg) | (refine zBE 2 #[.int .i64 0, .slice none 0 0] 28 ?_; intro gb219 hg w4 hbox hb; have BK219 := zA (hbox); have GW219 := zA (zB6 hg (kP (zT HB.out GE218.out)) : w.heap.size ≤ gb219); have GE219 := zA (zB6 hg (kP (zT HB.out GE218.out)) : w.heap.size ≤ gb219); replace HB := zA (kQ (zT HB.out GE218.out) hb); have NB218_219 := zA (zB4 hg BK218.out : gb218 ≠ gb219); have NB219_218 := zA (zB5 hg BK218.out : gb219 ≠ gb218); replace BK218 := zA (zB1 BK218.out hb); clear hb hbox hg) | (refine zBE 3 #[.int .i64 0, .slice none 0 0] 28 ?_; intro gb220 hg w5 hbox hb; have BK220 := zA (hbox); have GW220 := zA (zB6 hg (kP (zV HB.out GE218.out GE219.out)) : w.heap.size ≤ gb220); have GE220 := zA (zB6 hg (kP (zV HB.out GE218.out GE219.out)) : w.heap.size ≤ gb220); replace HB := zA (kQ (zV HB.out GE218.out GE219.out) hb); have NB218_220 := zA (zB4 hg BK218.out : gb218 ≠ gb220); have NB220_218 := zA (zB5 hg BK218.out : gb220 ≠ gb218); replace BK218 := zA (zB1 BK218.out hb); have NB219_220 := zA (zB4 hg BK219.out : gb219 ≠ gb220); have NB220_219 := zA (zB5 hg BK219.out : gb220 ≠ gb219); replace BK219 := zA (zB1 BK219.out hb); clear hb hbox hg; have hnb6 := NB218_219.out; have hnc6 := NB219_218.out; have hnb7 := NB218_220.out; have hnc7 := NB220_218.out; obtain ⟨hcz8_0, hcz8_1, hfz8_0, hfz8_1⟩ := zB3 BK218.out; have hnb9 := NB220_219.out; have hnc9 := NB219_220.out; obtain ⟨hcz10_0, hcz10_1, hfz10_0, hfz10_1⟩ := zB3 BK220.out) | (refine zO (some 9) Tryd.func8 #[.slice A0_1 l0_1.length c0_1] ?_; (with_reducible refine (laws_toInt64S.calls k _ _ l0_1 t221 _ ?side1 ?side2 A2.out).mono ?_); (case side1 => exact kO HR0_1.out (zW HB.out GE218.out GE219.out GE220.out)); (case side2 => exact HC0_1.out); rintro e w11 ⟨v222, rfl, ho0, hb⟩; refine ⟨_, rfl, ?_⟩; have HO223 := zA (kI ho0 (kP (zW HB.out GE218.out GE219.out GE220.out))); replace BK218 := zA (blk_below (g := gb218) (o := .cells #[.int .i64 a0_0, .slice A0_1 l0_1.length c0_1] 24 (0, 0)) (zBF BK218.out NB218_220.out) hb); replace BK219 := zA (blk_below (g := gb219) (o := .cells #[.int .i64 0, .slice none 0 0] 28 (0, 0)) (zBF BK219.out NB219_220.out) hb); replace BK220 := zA (blk_below (g := gb220) (o := .cells #[.int .i64 a0_0, .slice none 0 0] 28 (0, 0)) (by (with_reducible repeat (first | refine zJ ?_ _ | refine zK ?_ | refine zI ?_ _)); refine blk_put (cs := #[.int .i64 0, .slice none 0 0]) ?_ 0 _ rfl; (with_reducible repeat (first | refine zJ ?_ _ | refine zK ?_ | refine zI ?_ _)); exact BK220.out) hb); replace HB := zA (kQ (zW HB.out GE218.out GE219.out GE220.out) hb); (try clear hb); (try clear ho0); obtain ⟨Ao12, co12, eo12⟩ := kM HO223.out; subst eo12; obtain ⟨hcz13_0, hcz13_1, hfz13_0, hfz13_1⟩ := zB3 BK220.out; obtain ⟨hcz14_0, hcz14_1, hfz14_0, hfz14_1⟩ := zB3 BK219.out))
 refine bodyPost_ret (results_cell_row rfl _ _ gb219 28 #[.int .i64 a0_0, .slice Ao12 t221.length co12] (0, 0) _ rfl (by (with_reducible repeat (first | refine zJ ?_ _ | refine zK ?_ | refine zI ?_ _)); refine blk_put (cs := #[.int .i64 a0_0, .slice none 0 0]) ?_ 1 _ rfl; (with_reducible repeat (first | refine zJ ?_ _ | refine zK ?_ | refine zI ?_ _)); refine blk_put (cs := #[.int .i64 0, .slice none 0 0]) ?_ 0 _ rfl; (with_reducible repeat (first | refine zJ ?_ _ | refine zK ?_ | refine zI ?_ _)); refine blk_far ?_ NB219_220.out _; (with_reducible repeat (first | refine zJ ?_ _ | refine zK ?_ | refine zI ?_ _)); exact BK219.out) Tryd.underlying28 rfl (by kernel_rfl)) rfl ?_
 exact ⟨_, zr, by (with_reducible repeat (first | apply zF | apply zG | apply zH)); exact kA (kY (p := ⟨gb219, 1, none⟩) (kY (p := ⟨gb219, 0, none⟩) (kY (p := ⟨gb220, 1, none⟩) (kD (kD HO223.out BK220.out (by decide)) BK219.out (by decide)) (fun _ hk => hk.1.2) (.slice Ao12 t221.length co12)) (fun _ hk => hk.2) (.int .i64 a0_0)) (fun _ hk => hk.2) (.slice Ao12 t221.length co12)) (fun _ hk => trivial), zW HB.out GE218.out GE219.out GE220.out⟩

/-! ### laws_eqInt64S: function 10 -/
def laws_eqInt64S.l0 : Nat → List Int → List Int → Int → Option (Bool)
 | 0, _, _, _ => none
 | k + 1, x0, x1, x5 => if x5 < (x0.length : Int) then (if 0 ≤ x5 then (if x5 < (x1.length : Int) then (if (rd x0 x5) = (rd x1 x5) then (laws_eqInt64S.l0 k x0 x1 (wrap64 (x5 + 1))) else (some false)) else (none)) else (none)) else (some true)
def laws_eqInt64S.f (k : Nat) (l0 : List Int) (l1 : List Int) : Option (Bool) := if (l0.length : Int) = (l1.length : Int) then (laws_eqInt64S.l0 k l0 l1 0) else (some false)

set_option maxHeartbeats 8000000 in
set_option maxRecDepth 100000 in
theorem laws_eqInt64S.calls (k : Nat) (A0 : Option Addr) (c0 : Nat) (l0 : List Int) (A1 : Option Addr) (c1 : Nat) (l1 : List Int) (r : Bool) (w : World) (hr0 : Kd.C (Kd.int .i64) w A0 l0.length l0) (hc0 : l0.length ≤ c0) (hr1 : Kd.C (Kd.int .i64) w A1 l1.length l1) (hc1 : l1.length ≤ c1) (h : laws_eqInt64S.f k l0 l1 = some r) :
  Calls Tryd.prog 10 #[.slice A0 l0.length c0, .slice A1 l1.length c1] w fun e w' => e = .returned (.bool r) ∧ Drawn0 w w' := by
 have HR0 := zA hr0
 have HC0 := zA hc0
 clear hr0 hc0
 have HR1 := zA hr1
 have HC1 := zA hc1
 clear hr1 hc1
 have H := h
 unfold laws_eqInt64S.f at H
 clear h
 by_cases c3 : (l0.length : Int) = (l1.length : Int)
 ·rw [if_pos c3] at H
  obtain ⟨c3b0, c3b1⟩ := zT1 c3
  have c3b2 : (l0.length == l1.length) = true := by first | simpa using c3 | (simp at c3 ⊢; omega)
  clear c3
  have H' := zA H
  clear H
  go_enter Tryd.func10, Tryd.ntmps10
  go_wp2
  repeat (go_quiet (fail); try go_wp2)
  go_loopg [5] k (fun kq v5 w' => ∃ (x5_1 : Int), v5 = .int .i64 x5_1 ∧ Aside0 (laws_eqInt64S.l0 kq l0 l1 x5_1 = some r) ∧ Aside0 (kq ≤ k) ∧ Drawn0 w w')
  case atStart => exact ⟨(0), zs, H', ⟨Nat.le_refl _⟩, by repeat (first | exact Drawn0.refl _ | apply Drawn0.step)⟩
  case round =>
   clear H'
   try clear c1
   try clear c3
   obtain ⟨x5_1, rfl, HA, HK1, ⟨m1, rfl⟩⟩ := hrel
   cases gk with
   | zero => exact absurd HA.out (by simp [laws_eqInt64S.l0])
   | succ k1 =>
    have H := HA.out
    clear HA
    simp only [laws_eqInt64S.l0] at H
    by_cases c4 : x5_1 < (l0.length : Int)
    ·rw [if_pos c4] at H
     have c4b0 : decide (x5_1 < (l0.length : Int)) = true := decide_eq_true c4
     clear c4
     by_cases c5 : 0 ≤ x5_1
     ·rw [if_pos c5] at H
      have c5b0 : decide (0 ≤ x5_1) = true := decide_eq_true c5
      clear c5
      by_cases c6 : x5_1 < (l1.length : Int)
      ·rw [if_pos c6] at H
       have c6b0 : decide (x5_1 < (l1.length : Int)) = true := decide_eq_true c6
       clear c6
       by_cases c7 : (rd l0 x5_1) = (rd l1 x5_1)
       ·rw [if_pos c7] at H
        obtain ⟨c7b0, c7b1⟩ := zT1 c7
        clear c7
        have H' := zA H
        clear H
        have p374 : 0 ≤ (x5_1 : Int) := zd
        have q374 : x5_1 < (l0.length : Int) := zd
        obtain ⟨ad374, e374, hx374_0⟩ := Kd.at_int HR0.out x5_1 p374 q374
        cases e374
        replace p374 := eq_true p374
        replace q374 := eq_true q374
        have p375 : 0 ≤ (x5_1 : Int) := zd
        have q375 : x5_1 < (l1.length : Int) := zd
        obtain ⟨ad375, e375, hx375_0⟩ := Kd.at_int HR1.out x5_1 p375 q375
        cases e375
        replace p375 := eq_true p375
        replace q375 := eq_true q375
        go_wp2
        repeat (go_quiet (fail); try go_wp2)
        go_roundg k1
        case measure => have := HK1.out; omega
        case rel => exact ⟨(wrap64 (x5_1 + 1)), zs, H', ⟨by have := HK1.out; omega⟩, by repeat (first | exact Drawn0.refl _ | apply Drawn0.step)⟩
       rw [if_neg c7] at H
       obtain ⟨c7b0, c7b1⟩ := zT2 c7
       obtain rfl := Option.some.inj H
       have p374 : 0 ≤ (x5_1 : Int) := zd
       have q374 : x5_1 < (l0.length : Int) := zd
       obtain ⟨ad374, e374, hx374_0⟩ := Kd.at_int HR0.out x5_1 p374 q374
       cases e374
       replace p374 := eq_true p374
       replace q374 := eq_true q374
       have p375 : 0 ≤ (x5_1 : Int) := zd
       have q375 : x5_1 < (l1.length : Int) := zd
       obtain ⟨ad375, e375, hx375_0⟩ := Kd.at_int HR1.out x5_1 p375 q375
       cases e375
       replace p375 := eq_true p375
       replace q375 := eq_true q375
       go_wp2
       repeat (go_quiet (fail); try go_wp2)
       go_ret
       exact ⟨zs, by repeat (first | exact Drawn0.refl _ | apply Drawn0.step)⟩
      rw [if_neg c6] at H
      exact absurd H (by simp)
     rw [if_neg c5] at H
     exact absurd H (by simp)
    rw [if_neg c4] at H
    have c4b0 : decide (x5_1 < (l0.length : Int)) = false := decide_eq_false c4
    clear c4
    obtain rfl := Option.some.inj H
    go_wp2
    repeat (go_quiet (fail); try go_wp2)
    go_ret
    exact ⟨zs, by repeat (first | exact Drawn0.refl _ | apply Drawn0.step)⟩
 rw [if_neg c3] at H
 obtain ⟨c3b0, c3b1⟩ := zT2 c3
 have c3b2 : (l0.length == l1.length) = false := by first | simpa using c3 | (simp at c3 ⊢; omega)
 obtain rfl := Option.some.inj H
 go_enter Tryd.func10, Tryd.ntmps10
 go_wp2
 repeat (go_quiet (fail); try go_wp2)
 go_ret
 exact ⟨zs, by repeat (first | exact Drawn0.refl _ | apply Drawn0.step)⟩

/-! ### laws_eqAlphabet: function 11 -/
def laws_eqAlphabet.f (k : Nat) (a0_0 : Int) (l0_1 : List Int) (a1_0 : Int) (l1_1 : List Int) : Option (Bool) := if a0_0 = a1_0 then ((laws_eqInt64S.f k l0_1 l1_1).bind fun t378 => (if t378 = true then (some true) else (some false))) else (some false)

set_option maxHeartbeats 8000000 in
set_option maxRecDepth 100000 in
theorem laws_eqAlphabet.calls (k : Nat) (a0_0 : Int) (A0_1 : Option Addr) (c0_1 : Nat) (l0_1 : List Int) (a1_0 : Int) (A1_1 : Option Addr) (c1_1 : Nat) (l1_1 : List Int) (r : Bool) (w : World) (hr0_1 : Kd.C (Kd.int .i64) w A0_1 l0_1.length l0_1) (hc0_1 : l0_1.length ≤ c0_1) (hr1_1 : Kd.C (Kd.int .i64) w A1_1 l1_1.length l1_1) (hc1_1 : l1_1.length ≤ c1_1) (h : laws_eqAlphabet.f k a0_0 l0_1 a1_0 l1_1 = some r) :
  Calls Tryd.prog 11 #[.agg #[.int .i64 a0_0, .slice A0_1 l0_1.length c0_1], .agg #[.int .i64 a1_0, .slice A1_1 l1_1.length c1_1]] w fun e w' => e = .returned (.bool r) ∧ Below w.heap.size w w' := by
 have hu28 := Tryd.underlying28
 have HR0_1 := zA hr0_1
 have HC0_1 := zA hc0_1
 clear hr0_1 hc0_1
 have HR1_1 := zA hr1_1
 have HC1_1 := zA hc1_1
 clear hr1_1 hc1_1
 have HB := zA (kW w.heap.size w)
 have H := h
 unfold laws_eqAlphabet.f at H
 clear h
 by_cases c3 : a0_0 = a1_0
 ·rw [if_pos c3] at H
  obtain ⟨c3b0, c3b1⟩ := zT1 c3
  clear c3
  obtain ⟨t378, A4, H⟩ := zb H
  try dsimp only at H
  by_cases c5 : t378 = true
  ·subst c5
   rw [if_pos rfl] at H
   obtain rfl := Option.some.inj H
   go_enter Tryd.func11, Tryd.ntmps11
   go_wp2_with (first | (refine zBE 2 #[.int .i64 a0_0, .slice A0_1 l0_1.length c0_1] 28 ?_; intro gb376 hg w6 hbox hb; have BK376 := zA (hbox); have GW376 := zA (zBH hg HB.out); have GE376 := zA (zBH hg HB.out); replace HB := zA (kQ (zQ HB.out) hb); clear hb hbox hg) | (refine zBE 3 #[.int .i64 a1_0, .slice A1_1 l1_1.length c1_1] 28 ?_; intro gb377 hg w7 hbox hb; have BK377 := zA (hbox); have GW377 := zA (zB6 hg (kP (zT HB.out GE376.out)) : w.heap.size ≤ gb377); have GE377 := zA (zB6 hg (kP (zT HB.out GE376.out)) : w.heap.size ≤ gb377); replace HB := zA (kQ (zT HB.out GE376.out) hb); have NB376_377 := zA (zB4 hg BK376.out : gb376 ≠ gb377); have NB377_376 := zA (zB5 hg BK376.out : gb377 ≠ gb376); replace BK376 := zA (zB1 BK376.out hb); clear hb hbox hg; have hnb8 := NB376_377.out; have hnc8 := NB377_376.out; obtain ⟨hcz9_0, hcz9_1, hfz9_0, hfz9_1⟩ := zB3 BK376.out; obtain ⟨hcz10_0, hcz10_1, hfz10_0, hfz10_1⟩ := zB3 BK377.out) | (refine zO (some 14) Tryd.func10 #[.slice A0_1 l0_1.length c0_1, .slice A1_1 l1_1.length c1_1] ?_; (with_reducible refine (laws_eqInt64S.calls k _ _ l0_1 _ _ l1_1 true _ ?side1 ?side2 ?side3 ?side4 A4.out).mono ?_); (case side1 => exact zS (kO HR0_1.out HB.out)); (case side2 => exact HC0_1.out); (case side3 => exact zS (kO HR1_1.out HB.out)); (case side4 => exact HC1_1.out); rintro e w' ⟨rfl, ⟨nd, rfl⟩⟩; refine ⟨_, rfl, ?_⟩))
   go_ret
   exact ⟨zr, zV HB.out GE376.out GE377.out⟩
  replace c5 := Bool.eq_false_iff.mpr c5
  subst c5
  rw [if_neg (show ¬ (false = true) by decide)] at H
  obtain rfl := Option.some.inj H
  go_enter Tryd.func11, Tryd.ntmps11
  go_wp2_with (first | (refine zBE 2 #[.int .i64 a0_0, .slice A0_1 l0_1.length c0_1] 28 ?_; intro gb376 hg w11 hbox hb; have BK376 := zA (hbox); have GW376 := zA (zBH hg HB.out); have GE376 := zA (zBH hg HB.out); replace HB := zA (kQ (zQ HB.out) hb); clear hb hbox hg) | (refine zBE 3 #[.int .i64 a1_0, .slice A1_1 l1_1.length c1_1] 28 ?_; intro gb377 hg w12 hbox hb; have BK377 := zA (hbox); have GW377 := zA (zB6 hg (kP (zT HB.out GE376.out)) : w.heap.size ≤ gb377); have GE377 := zA (zB6 hg (kP (zT HB.out GE376.out)) : w.heap.size ≤ gb377); replace HB := zA (kQ (zT HB.out GE376.out) hb); have NB376_377 := zA (zB4 hg BK376.out : gb376 ≠ gb377); have NB377_376 := zA (zB5 hg BK376.out : gb377 ≠ gb376); replace BK376 := zA (zB1 BK376.out hb); clear hb hbox hg; have hnb13 := NB376_377.out; have hnc13 := NB377_376.out; obtain ⟨hcz14_0, hcz14_1, hfz14_0, hfz14_1⟩ := zB3 BK376.out; obtain ⟨hcz15_0, hcz15_1, hfz15_0, hfz15_1⟩ := zB3 BK377.out) | (refine zO (some 14) Tryd.func10 #[.slice A0_1 l0_1.length c0_1, .slice A1_1 l1_1.length c1_1] ?_; (with_reducible refine (laws_eqInt64S.calls k _ _ l0_1 _ _ l1_1 false _ ?side1 ?side2 ?side3 ?side4 A4.out).mono ?_); (case side1 => exact zS (kO HR0_1.out HB.out)); (case side2 => exact HC0_1.out); (case side3 => exact zS (kO HR1_1.out HB.out)); (case side4 => exact HC1_1.out); rintro e w' ⟨rfl, ⟨nd, rfl⟩⟩; refine ⟨_, rfl, ?_⟩))
  go_ret
  exact ⟨zr, zV HB.out GE376.out GE377.out⟩
 rw [if_neg c3] at H
 obtain ⟨c3b0, c3b1⟩ := zT2 c3
 obtain rfl := Option.some.inj H
 go_enter Tryd.func11, Tryd.ntmps11
 go_wp2_with (first | (refine zBE 2 #[.int .i64 a0_0, .slice A0_1 l0_1.length c0_1] 28 ?_; intro gb376 hg w16 hbox hb; have BK376 := zA (hbox); have GW376 := zA (zBH hg HB.out); have GE376 := zA (zBH hg HB.out); replace HB := zA (kQ (zQ HB.out) hb); clear hb hbox hg) | (refine zBE 3 #[.int .i64 a1_0, .slice A1_1 l1_1.length c1_1] 28 ?_; intro gb377 hg w17 hbox hb; have BK377 := zA (hbox); have GW377 := zA (zB6 hg (kP (zT HB.out GE376.out)) : w.heap.size ≤ gb377); have GE377 := zA (zB6 hg (kP (zT HB.out GE376.out)) : w.heap.size ≤ gb377); replace HB := zA (kQ (zT HB.out GE376.out) hb); have NB376_377 := zA (zB4 hg BK376.out : gb376 ≠ gb377); have NB377_376 := zA (zB5 hg BK376.out : gb377 ≠ gb376); replace BK376 := zA (zB1 BK376.out hb); clear hb hbox hg; have hnb18 := NB376_377.out; have hnc18 := NB377_376.out; obtain ⟨hcz19_0, hcz19_1, hfz19_0, hfz19_1⟩ := zB3 BK376.out; obtain ⟨hcz20_0, hcz20_1, hfz20_0, hfz20_1⟩ := zB3 BK377.out))
 go_ret
 exact ⟨zr, zV HB.out GE376.out GE377.out⟩

/-! ### laws_markInt64S: function 13 -/
def laws_markInt64S.l0 : Nat → List Int → Int → Int → Option (Int × List Int)
 | 0, _, _, _ => none
 | k + 1, x0, x1, x5 => if x5 < (x0.length : Int) then (if 0 ≤ x5 then (laws_markInt64S.l0 k (x0.set (x5 : Int).toNat x1) (wrap64 (x1 + 1)) (wrap64 (x5 + 1))) else (none)) else (some (x1, x0))
def laws_markInt64S.f (k : Nat) (l0 : List Int) (a1 : Int) : Option (Int × List Int) := laws_markInt64S.l0 k l0 a1 0

set_option maxHeartbeats 8000000 in
set_option maxRecDepth 100000 in
theorem laws_markInt64S.calls (k : Nat) (P0_ : Nat → Prop) (u9000_ : Value) (l0 : List Int) (a1 : Int) (r1 : Int) (r2 : List Int) (w0 w : World) (hB : Below w0.heap.size w0 w) (ho0 : Kd.R (Kd.int .i64) 2 w w0.heap.size P0_ u9000_ l0) (h : laws_markInt64S.f k l0 a1 = some (r1, r2)) :
  Calls Tryd.prog 13 #[u9000_, .int .i64 a1] w fun e w' => e = .returned (.int .i64 r1) ∧ Kd.R (Kd.int .i64) 2 w' w0.heap.size (fun k_ => (P0_ k_ ∨ w.heap.size ≤ k_)) u9000_ r2 ∧ Below w0.heap.size w0 w' ∧ Kept w w' (fun k_ => P0_ k_) := by
 have HO0 := zA (show Kd.R (Kd.int .i64) 2 w w0.heap.size (fun k_ => (P0_ k_ ∨ w.heap.size ≤ k_)) u9000_ l0 from kA ho0 (fun k_ hk => (.inl hk)))
 have HK := zA (Kept.refl w (fun k_ => P0_ k_))
 have HW0 := zA hB.size
 have HB := zA hB
 clear hB
 have H := h
 unfold laws_markInt64S.f at H
 clear h
 have H' := zA H
 clear H
 go_enter Tryd.func13, Tryd.ntmps13
 go_wp2
 go_loopg [1, 5] k (fun kq v1 v5 w' => ∃ (x0_1 : List Int) (x1_1 : Int) (x5_1 : Int), v1 = .int .i64 x1_1 ∧ v5 = .int .i64 x5_1 ∧ Aside0 (laws_markInt64S.l0 kq x0_1 x1_1 x5_1 = some (r1, r2)) ∧ Aside0 (kq ≤ k) ∧ Aside0 (Kd.R (Kd.int .i64) 2 w' w0.heap.size (fun k_ => (P0_ k_ ∨ w.heap.size ≤ k_)) u9000_ x0_1) ∧ Aside0 (Kept w w' (fun k_ => P0_ k_)) ∧ Aside0 (Below w0.heap.size w0 w'))
 case atStart => exact ⟨(l0), (a1), (0), zs, zs, H', ⟨Nat.le_refl _⟩, ⟨zP HO0.out⟩, ⟨by repeat (first | (with_reducible first | exact HK.out | apply Kept.alloc | apply Kept.drewN | apply Kept.drew) | exact HK.out)⟩, ⟨zQ HB.out⟩⟩
 case round =>
  clear H'
  try clear c1
  obtain ⟨x0_1, x1_1, x5_1, rfl, rfl, HA, HK1, HO_0, HK, HB⟩ := hrel
  cases gk with
  | zero => exact absurd HA.out (by simp [laws_markInt64S.l0])
  | succ k1 =>
   have H := HA.out
   clear HA
   simp only [laws_markInt64S.l0] at H
   by_cases c3 : x5_1 < (x0_1.length : Int)
   ·rw [if_pos c3] at H
    have c3b0 : decide (x5_1 < (x0_1.length : Int)) = true := decide_eq_true c3
    clear c3
    by_cases c4 : 0 ≤ x5_1
    ·rw [if_pos c4] at H
     have c4b0 : decide (0 ≤ x5_1) = true := decide_eq_true c4
     clear c4
     obtain ⟨y379, hy379⟩ : ∃ y_ : List Int, y_ = (x0_1.set (x5_1 : Int).toNat x1_1) := ⟨_, rfl⟩
     replace H : (laws_markInt64S.l0 k1 y379 (wrap64 (x1_1 + 1)) (wrap64 (x5_1 + 1))) = some (r1, r2) := zy hy379 H
     have Ny379 := zA hy379
     clear hy379
     have H' := zA H
     clear H
     obtain ⟨Ao6, co6, eo6⟩ := kM HO_0.out
     subst eo6
     have p5 : 0 ≤ (x5_1 : Int) := zd
     have q5 : (x5_1 : Int) < ((x0_1.length : Int) : Int) := zd
     obtain ⟨go5, co5, eo5, gb5, gl5, cl5, HG5⟩ := Kd.R_form HO_0.out (by omega)
     (first | cases eo5 | (injection eo5 with ea_ en_ ec_; (first | subst ea_ | (injection ea_ with ea_; subst ea_)); subst ec_; clear en_))
     have GB5 := zA gb5
     have GG5 := zA HG5
     clear gb5 gl5 HG5
     have HMgo5 := zA (show (P0_ go5 ∨ w.heap.size ≤ go5) from (HO_0.out.1 _ rfl))
     obtain ⟨hx5_0, hf5_0⟩ := Kd.R_celln 0 HO_0.out (x5_1 : Int) p5 q5
     replace p5 := eq_true p5
     replace q5 := eq_true q5
     have HP7 := Kd.R_putg HO_0.out (x5_1 : Int) x1_1
     go_wp2_with (first | ((with_reducible refine gate_store (t := 2) (p := 15) rfl ?_); refine store_event (t := 2) (p := 15) (v := ?vo_w8) (w1 := (wr.setCell ⟨go5, (x5_1 : Int).toNat, none⟩ (.int .i64 x1_1))) ?hg ?ho ?hn ?hr ?_; (case ho => rfl); (case hg => rfl); (case hn => rfl); (case hr => first | (go_simp; done) | (go_simp; rfl)); intro w8 hw; have hg : wr.grownBy w8 (some go5) := (by rw [hw]; exact HP7.2); have hp_ : Kd.R (Kd.int .i64) 2 w8 w0.heap.size (fun k_ => (P0_ k_ ∨ w.heap.size ≤ k_)) (.slice (some ⟨go5, 0, none⟩) x0_1.length co6) y379 := (by rw [hw, Ny379.out]; exact HP7.1); clear HP7; replace HB := zA ((by rw [hw]; exact zE (HB.out) GB5.out : Below w0.heap.size w0 w8)); replace HK := zA (Kept.of_grown (S := (fun k_ => P0_ k_)) hg (by repeat (first | (with_reducible first | exact HK.out | apply Kept.alloc | apply Kept.drewN | apply Kept.drew) | exact HK.out)) (fun k_ e_ => (HO_0.out.1 k_ e_))); replace HO_0 := zA (hp_); clear hg hw hp_))
     go_roundg k1
     case measure => have := HK1.out; omega
     case rel => exact ⟨(y379), (wrap64 (x1_1 + 1)), (wrap64 (x5_1 + 1)), zs, zs, H', ⟨by have := HK1.out; omega⟩, ⟨zP HO_0.out⟩, ⟨by repeat (first | (with_reducible first | exact HK.out | apply Kept.alloc | apply Kept.drewN | apply Kept.drew) | exact HK.out)⟩, ⟨zQ HB.out⟩⟩
    rw [if_neg c4] at H
    exact absurd H (by simp)
   rw [if_neg c3] at H
   have c3b0 : decide (x5_1 < (x0_1.length : Int)) = false := decide_eq_false c3
   clear c3
   simp only [Option.some.injEq, Prod.mk.injEq] at H
   obtain ⟨rfl, rfl⟩ := H
   obtain ⟨Ao9, co9, eo9⟩ := kM HO_0.out
   subst eo9
   go_wp2
   go_ret
   exact ⟨zr, zP HO_0.out, zQ HB.out, by repeat (first | (with_reducible first | exact HK.out | apply Kept.alloc | apply Kept.drewN | apply Kept.drew) | exact HK.out)⟩

/-! ### laws_markAlphabet: function 12 -/
def laws_markAlphabet.f (k : Nat) (a0_0 : Int) (l0_1 : List Int) (a1 : Int) : Option (Int × List Int) := (laws_markInt64S.f k l0_1 a1).bind fun bt381 => (some (bt381.1, bt381.2))

set_option maxHeartbeats 8000000 in
set_option maxRecDepth 100000 in
theorem laws_markAlphabet.calls (k : Nat) (a0_0 : Int) (P0_1_ : Nat → Prop) (u9000_ : Value) (l0_1 : List Int) (a1 : Int) (r1 : Int) (r2 : List Int) (w0 w : World) (hB : Below w0.heap.size w0 w) (ho0_1 : Kd.R (Kd.int .i64) 2 w w0.heap.size P0_1_ u9000_ l0_1) (h : laws_markAlphabet.f k a0_0 l0_1 a1 = some (r1, r2)) :
  Calls Tryd.prog 12 #[.agg #[.int .i64 a0_0, u9000_], .int .i64 a1] w fun e w' => e = .returned (.int .i64 r1) ∧ Kd.R (Kd.int .i64) 2 w' w0.heap.size (fun k_ => (P0_1_ k_ ∨ w.heap.size ≤ k_)) u9000_ r2 ∧ Below w0.heap.size w0 w' ∧ Kept w w' (fun k_ => P0_1_ k_) := by
 have hu28 := Tryd.underlying28
 have HO0_1 := zA (show Kd.R (Kd.int .i64) 2 w w0.heap.size (fun k_ => (P0_1_ k_ ∨ w.heap.size ≤ k_)) u9000_ l0_1 from kA ho0_1 (fun k_ hk => (.inl hk)))
 have HK := zA (Kept.refl w (fun k_ => P0_1_ k_))
 have HW0 := zA hB.size
 have HB := zA hB
 clear hB
 have H := h
 unfold laws_markAlphabet.f at H
 clear h
 obtain ⟨⟨t381, t382⟩, A3, H⟩ := zb H
 try dsimp only at H
 simp only [Option.some.injEq, Prod.mk.injEq] at H
 obtain ⟨rfl, rfl⟩ := H
 obtain ⟨Ao4, co4, eo4⟩ := kM HO0_1.out
 subst eo4
 go_enter Tryd.func12, Tryd.ntmps12
 go_wp2_with (first | (refine zBE 2 #[.int .i64 a0_0, .slice Ao4 l0_1.length co4] 28 ?_; intro gb380 hg w5 hbox hb; replace HO0_1 := zA (kL (zP HO0_1.out) hb); have BK380 := zA (hbox); have GW380 := zA (zB6 hg (by first | exact HK.out.1 | exact (show Kept w _ (fun k_ => P0_1_ k_) from by repeat (first | (with_reducible first | exact HK.out | apply Kept.alloc | apply Kept.drewN | apply Kept.drew) | exact HK.out)).1) : w.heap.size ≤ gb380); replace HK := zA (Kept.below (S := (fun k_ => P0_1_ k_)) (by repeat (first | (with_reducible first | exact HK.out | apply Kept.alloc | apply Kept.drewN | apply Kept.drew) | exact HK.out)) hb); have GE380 := zA (zBH hg HB.out); replace HB := zA (kQ (zQ HB.out) hb); clear hb hbox hg; obtain ⟨hcz6_0, hcz6_1, hfz6_0, hfz6_1⟩ := zB3 BK380.out) | (refine zO (some 8) Tryd.func13 #[.slice Ao4 l0_1.length co4, .int .i64 a1] ?_; (with_reducible refine (laws_markInt64S.calls k (fun k_ => some k_ = (.slice Ao4 l0_1.length co4 : Value).ownBlock) (.slice Ao4 l0_1.length co4) l0_1 a1 t381 t382 w0 _ ?side1 ?side2 A3.out).mono ?_); (case side1 => exact zT HB.out GE380.out); (case side2 => exact jK rfl HO0_1.out); rintro e w7 ⟨rfl, hy0, hb, hkp⟩; refine ⟨_, rfl, ?_⟩; replace BK380 := zA (blk_kept (zR BK380.out) hkp (fun hs_ => (fun e_ => (Kd.R_ne HO0_1.out BK380.out (by decide)) e_) hs_)); replace HK := zA (Kept.then_ (S := (fun k_ => P0_1_ k_)) (by repeat (first | (with_reducible first | exact HK.out | apply Kept.alloc | apply Kept.drewN | apply Kept.drew | refine Kept.setCell ?_ (.inr GW380.out) _) | exact HK.out)) hkp (fun k_ hs_ => (fun e_ => (HO0_1.out.1 k_ e_.symm)) hs_)); replace HO0_1 := zA (Kd.R_reok rfl hy0 (fun k_ e_ => HO0_1.out.1 k_ e_)); replace HB := zA (hb); (try clear hb); (try clear hkp); (try clear hy0)))
 go_ret
 exact ⟨zr, zP HO0_1.out, zT HB.out GE380.out, by repeat (first | (with_reducible first | exact HK.out | apply Kept.alloc | apply Kept.drewN | apply Kept.drew | refine Kept.setCell ?_ (.inr GW380.out) _) | exact HK.out)⟩

/-! ### laws_heldInt64S: function 14 -/
def laws_heldInt64S.l0 : Nat → List Int → Int → Int → Option (Int)
 | 0, _, _, _ => none
 | k + 1, x0, x1, x5 => if x5 < (x0.length : Int) then (if 0 ≤ x5 then (if (rd x0 x5) = x1 then (laws_heldInt64S.l0 k x0 (wrap64 (x1 + 1)) (wrap64 (x5 + 1))) else (some (-1))) else (none)) else (some x1)
def laws_heldInt64S.f (k : Nat) (l0 : List Int) (a1 : Int) : Option (Int) := laws_heldInt64S.l0 k l0 a1 0

set_option maxHeartbeats 8000000 in
set_option maxRecDepth 100000 in
theorem laws_heldInt64S.calls (k : Nat) (A0 : Option Addr) (c0 : Nat) (l0 : List Int) (a1 : Int) (r : Int) (w : World) (hr0 : Kd.C (Kd.int .i64) w A0 l0.length l0) (hc0 : l0.length ≤ c0) (h : laws_heldInt64S.f k l0 a1 = some r) :
  Calls Tryd.prog 14 #[.slice A0 l0.length c0, .int .i64 a1] w fun e w' => e = .returned (.int .i64 r) ∧ Drawn0 w w' := by
 have HR0 := zA hr0
 have HC0 := zA hc0
 clear hr0 hc0
 have H := h
 unfold laws_heldInt64S.f at H
 clear h
 have H' := zA H
 clear H
 go_enter Tryd.func14, Tryd.ntmps14
 go_wp2
 go_loopg [1, 5] k (fun kq v1 v5 w' => ∃ (x1_1 : Int) (x5_1 : Int), v1 = .int .i64 x1_1 ∧ v5 = .int .i64 x5_1 ∧ Aside0 (laws_heldInt64S.l0 kq l0 x1_1 x5_1 = some r) ∧ Aside0 (kq ≤ k) ∧ Drawn0 w w')
 case atStart => exact ⟨(a1), (0), zs, zs, H', ⟨Nat.le_refl _⟩, by repeat (first | exact Drawn0.refl _ | apply Drawn0.step)⟩
 case round =>
  clear H'
  try clear c1
  obtain ⟨x1_1, x5_1, rfl, rfl, HA, HK1, ⟨m1, rfl⟩⟩ := hrel
  cases gk with
  | zero => exact absurd HA.out (by simp [laws_heldInt64S.l0])
  | succ k1 =>
   have H := HA.out
   clear HA
   simp only [laws_heldInt64S.l0] at H
   by_cases c3 : x5_1 < (l0.length : Int)
   ·rw [if_pos c3] at H
    have c3b0 : decide (x5_1 < (l0.length : Int)) = true := decide_eq_true c3
    clear c3
    by_cases c4 : 0 ≤ x5_1
    ·rw [if_pos c4] at H
     have c4b0 : decide (0 ≤ x5_1) = true := decide_eq_true c4
     clear c4
     by_cases c5 : (rd l0 x5_1) = x1_1
     ·rw [if_pos c5] at H
      obtain ⟨c5b0, c5b1⟩ := zT1 c5
      clear c5
      have H' := zA H
      clear H
      have p383 : 0 ≤ (x5_1 : Int) := zd
      have q383 : x5_1 < (l0.length : Int) := zd
      obtain ⟨ad383, e383, hx383_0⟩ := Kd.at_int HR0.out x5_1 p383 q383
      cases e383
      replace p383 := eq_true p383
      replace q383 := eq_true q383
      go_wp2
      go_roundg k1
      case measure => have := HK1.out; omega
      case rel => exact ⟨(wrap64 (x1_1 + 1)), (wrap64 (x5_1 + 1)), zs, zs, H', ⟨by have := HK1.out; omega⟩, by repeat (first | exact Drawn0.refl _ | apply Drawn0.step)⟩
     rw [if_neg c5] at H
     obtain ⟨c5b0, c5b1⟩ := zT2 c5
     obtain rfl := Option.some.inj H
     have p383 : 0 ≤ (x5_1 : Int) := zd
     have q383 : x5_1 < (l0.length : Int) := zd
     obtain ⟨ad383, e383, hx383_0⟩ := Kd.at_int HR0.out x5_1 p383 q383
     cases e383
     replace p383 := eq_true p383
     replace q383 := eq_true q383
     go_wp2
     go_ret
     exact ⟨zs, by repeat (first | exact Drawn0.refl _ | apply Drawn0.step)⟩
    rw [if_neg c4] at H
    exact absurd H (by simp)
   rw [if_neg c3] at H
   have c3b0 : decide (x5_1 < (l0.length : Int)) = false := decide_eq_false c3
   clear c3
   obtain rfl := Option.some.inj H
   go_wp2
   go_ret
   exact ⟨zs, by repeat (first | exact Drawn0.refl _ | apply Drawn0.step)⟩

/-! ### laws_FnExactLongestChain: function 3 -/
def laws_eqInt64S_BFnExactLongestChain.f (k : Nat) (l0 : List Int) (l1 : List Int) : Option (Bool) := laws_eqInt64S.f k l0 l1
theorem laws_eqInt64S_BFnExactLongestChain.calls (k : Nat) (A0 : Option Addr) (c0 : Nat) (l0 : List Int) (A1 : Option Addr) (c1 : Nat) (l1 : List Int) (r : Bool) (w : World) (hr0 : Kd.C (Kd.int .i64) w A0 l0.length l0) (hc0 : l0.length ≤ c0) (hr1 : Kd.C (Kd.int .i64) w A1 l1.length l1) (hc1 : l1.length ≤ c1) (h : laws_eqInt64S_BFnExactLongestChain.f k l0 l1 = some r) :
 Calls Tryd.prog 10 #[.slice A0 l0.length c0, .slice A1 l1.length c1] w fun e w' => e = .returned (.bool r) ∧ Below w.heap.size w w' := by
 refine (laws_eqInt64S.calls k A0 c0 l0 A1 c1 l1 r w hr0 hc0 hr1 hc1 h).mono ?_
 rintro e w' ⟨h1, h2⟩
 exact ⟨h1, Drawn0.below h2⟩
def laws_FnExactLongestChain.f (k : Nat) (a0_0 : Int) (l0_1 : List Int) (l1 : List Int) : Option (Bool) := if (l1.length : Int) > 1048576 then (some true) else ((laws_szAlphabet.f a0_0 l0_1 1048576).bind fun t385 => (if t385 < 0 then (some true) else ((laws_toAlphabet.f k a0_0 l0_1).bind fun bt386 => ((laws_toInt64S.f k l1).bind fun t390 => ((spec_LongestChain.f k bt386.1 bt386.2 t390).bind fun bt393 => ((laws_toAlphabet.f k a0_0 l0_1).bind fun bt397 => ((laws_toInt64S.f k l1).bind fun t402 => ((impl_LongestChain.f k bt397.1 bt397.2 t402).bind fun bt405 => ((laws_eqInt64S_BFnExactLongestChain.f k bt405.1 bt393.1).bind fun t409 => (if t409 = true then (if bt405.2 = bt393.2 then ((laws_toAlphabet.f k a0_0 l0_1).bind fun bt410 => ((laws_eqAlphabet.f k bt397.1 bt397.2 bt410.1 bt410.2).bind fun t414 => (if t414 = true then ((laws_toInt64S.f k l1).bind fun t415 => ((laws_eqInt64S_BFnExactLongestChain.f k t402 t415).bind fun t418 => (if t418 = true then ((laws_markAlphabet.f k bt397.1 bt397.2 1).bind fun bt419 => ((laws_markInt64S.f k t402 bt419.1).bind fun bt421 => (if bt421.1 < 0 then (none) else ((laws_eqInt64S_BFnExactLongestChain.f k bt405.1 bt393.1).bind fun t423 => (if t423 = true then ((laws_markInt64S.f k bt405.1 1).bind fun bt424 => ((laws_heldInt64S.f k bt424.2 1).bind fun t426 => (if t426 < 0 then (none) else (if t426 = bt424.1 then ((laws_toAlphabet.f k a0_0 l0_1).bind fun bt427 => ((laws_toInt64S.f k l1).bind fun t431 => ((impl_LongestChain.f k bt427.1 bt427.2 t431).bind fun bt434 => ((laws_eqInt64S_BFnExactLongestChain.f k bt434.1 bt393.1).bind fun t438 => (if t438 = true then (if bt434.2 = bt393.2 then ((laws_heldInt64S.f k bt424.2 1).bind fun t439 => (if t439 < 0 then (none) else (if t439 = bt424.1 then (some true) else (none)))) else (none)) else (none)))))) else (none))))) else (none)))))) else (none)))) else (none)))) else (none)) else (none)))))))))))

set_option maxHeartbeats 8000000 in
set_option maxRecDepth 100000 in
theorem laws_FnExactLongestChain.calls (k : Nat) (a0_0 : Int) (A0_1 : Option Addr) (c0_1 : Nat) (l0_1 : List Int) (A1 : Option Addr) (c1 : Nat) (l1 : List Int) (r : Bool) (w : World) (hr0_1 : Kd.C (Kd.int .i64) w A0_1 l0_1.length l0_1) (hc0_1 : l0_1.length ≤ c0_1) (hr1 : Kd.C (Kd.int .i64) w A1 l1.length l1) (hc1 : l1.length ≤ c1) (hT : TabW w) (h : laws_FnExactLongestChain.f k a0_0 l0_1 l1 = some r) :
  Calls Tryd.prog 3 #[.agg #[.int .i64 a0_0, .slice A0_1 l0_1.length c0_1], .slice A1 l1.length c1] w fun e w' => e = .returned (.bool r) ∧ Below w.heap.size w w' := by
 have hu24 := Tryd.underlying24
 have hu28 := Tryd.underlying28
 have HT := zA hT
 clear hT
 have HR0_1 := zA hr0_1
 have HC0_1 := zA hc0_1
 clear hr0_1 hc0_1
 have HR1 := zA hr1
 have HC1 := zA hc1
 clear hr1 hc1
 have HB := zA (kW w.heap.size w)
 have H := h
 unfold laws_FnExactLongestChain.f at H
 clear h
 by_cases c3 : (l1.length : Int) > 1048576
 ·rw [if_pos c3] at H
  have c3b0 : decide (1048576 < (l1.length : Int)) = true := decide_eq_true c3
  have c3b1 : decide (1048576 < l1.length) = true := decide_eq_true (by omega)
  clear c3
  obtain rfl := Option.some.inj H
  go_enter Tryd.func3, Tryd.ntmps3
  go_wp2_with (first | (refine zBE 2 #[.int .i64 a0_0, .slice A0_1 l0_1.length c0_1] 24 ?_; intro gb384 hg w4 hbox hb; have BK384 := zA (hbox); have GW384 := zA (zBH hg HB.out); have GE384 := zA (zBH hg HB.out); replace HB := zA (kQ (zQ HB.out) hb); clear hb hbox hg))
  go_ret
  exact ⟨zr, zT HB.out GE384.out⟩
 rw [if_neg c3] at H
 have c3b0 : decide (1048576 < (l1.length : Int)) = false := decide_eq_false c3
 have c3b1 : decide (1048576 < l1.length) = false := decide_eq_false (by omega)
 clear c3
 obtain ⟨t385, A5, H⟩ := zb H
 try dsimp only at H
 by_cases c6 : t385 < 0
 ·rw [if_pos c6] at H
  have c6b0 : decide (t385 < 0) = true := decide_eq_true c6
  clear c6
  obtain rfl := Option.some.inj H
  go_enter Tryd.func3, Tryd.ntmps3
  go_wp2_with (first | (refine zBE 2 #[.int .i64 a0_0, .slice A0_1 l0_1.length c0_1] 24 ?_; intro gb384 hg w7 hbox hb; have BK384 := zA (hbox); have GW384 := zA (zBH hg HB.out); have GE384 := zA (zBH hg HB.out); replace HB := zA (kQ (zQ HB.out) hb); clear hb hbox hg; obtain ⟨hcz8_0, hcz8_1, hfz8_0, hfz8_1⟩ := zB3 BK384.out) | (refine zO (some 22) Tryd.func5 #[.agg #[.int .i64 a0_0, .slice A0_1 l0_1.length c0_1], .int .i64 1048576] ?_; (with_reducible refine (laws_szAlphabet.calls a0_0 _ _ l0_1 1048576 t385 _ ?side1 ?side2 A5.out).mono ?_); (case side1 => exact zS (kO HR0_1.out HB.out)); (case side2 => exact HC0_1.out); rintro e w9 ⟨rfl, hb⟩; refine ⟨_, rfl, ?_⟩; replace BK384 := zA (zB1 BK384.out hb); replace HB := zA (kQ (zT HB.out GE384.out) hb); (try clear hb)))
  go_ret
  exact ⟨zr, zT HB.out GE384.out⟩
 rw [if_neg c6] at H
 have c6b0 : decide (t385 < 0) = false := decide_eq_false c6
 clear c6
 obtain ⟨⟨t386, t387⟩, A10, H⟩ := zb H
 try dsimp only at H
 obtain ⟨t390, A11, H⟩ := zb H
 try dsimp only at H
 obtain ⟨⟨t393, t396⟩, A12, H⟩ := zb H
 try dsimp only at H
 obtain ⟨⟨t397, t398⟩, A13, H⟩ := zb H
 try dsimp only at H
 obtain ⟨t402, A14, H⟩ := zb H
 try dsimp only at H
 obtain ⟨⟨t405, t408⟩, A15, H⟩ := zb H
 try dsimp only at H
 obtain ⟨t409, A16, H⟩ := zb H
 try dsimp only at H
 by_cases c17 : t409 = true
 ·subst c17
  rw [if_pos rfl] at H
  by_cases c18 : t408 = t396
  ·rw [if_pos c18] at H
   obtain ⟨c18b0, c18b1⟩ := zT1 c18
   clear c18
   obtain ⟨⟨t410, t411⟩, A19, H⟩ := zb H
   try dsimp only at H
   obtain ⟨t414, A20, H⟩ := zb H
   try dsimp only at H
   by_cases c21 : t414 = true
   ·subst c21
    rw [if_pos rfl] at H
    obtain ⟨t415, A22, H⟩ := zb H
    try dsimp only at H
    obtain ⟨t418, A23, H⟩ := zb H
    try dsimp only at H
    by_cases c24 : t418 = true
    ·subst c24
     rw [if_pos rfl] at H
     obtain ⟨⟨t419, t420⟩, A25, H⟩ := zb H
     try dsimp only at H
     obtain ⟨⟨t421, t422⟩, A26, H⟩ := zb H
     try dsimp only at H
     by_cases c27 : t421 < 0
     ·rw [if_pos c27] at H
      exact absurd H (by simp)
     rw [if_neg c27] at H
     have c27b0 : decide (t421 < 0) = false := decide_eq_false c27
     clear c27
     obtain ⟨t423, A28, H⟩ := zb H
     try dsimp only at H
     by_cases c29 : t423 = true
     ·subst c29
      rw [if_pos rfl] at H
      obtain ⟨⟨t424, t425⟩, A30, H⟩ := zb H
      try dsimp only at H
      obtain ⟨t426, A31, H⟩ := zb H
      try dsimp only at H
      by_cases c32 : t426 < 0
      ·rw [if_pos c32] at H
       exact absurd H (by simp)
      rw [if_neg c32] at H
      have c32b0 : decide (t426 < 0) = false := decide_eq_false c32
      clear c32
      by_cases c33 : t426 = t424
      ·rw [if_pos c33] at H
       obtain ⟨c33b0, c33b1⟩ := zT1 c33
       clear c33
       obtain ⟨⟨t427, t428⟩, A34, H⟩ := zb H
       try dsimp only at H
       obtain ⟨t431, A35, H⟩ := zb H
       try dsimp only at H
       obtain ⟨⟨t434, t437⟩, A36, H⟩ := zb H
       try dsimp only at H
       obtain ⟨t438, A37, H⟩ := zb H
       try dsimp only at H
       by_cases c38 : t438 = true
       ·subst c38
        rw [if_pos rfl] at H
        by_cases c39 : t437 = t396
        ·rw [if_pos c39] at H
         obtain ⟨c39b0, c39b1⟩ := zT1 c39
         clear c39
         obtain ⟨t439, A40, H⟩ := zb H
         try dsimp only at H
         by_cases c41 : t439 < 0
         ·rw [if_pos c41] at H
          exact absurd H (by simp)
         rw [if_neg c41] at H
         have c41b0 : decide (t439 < 0) = false := decide_eq_false c41
         clear c41
         by_cases c42 : t439 = t424
         ·rw [if_pos c42] at H
          obtain ⟨c42b0, c42b1⟩ := zT1 c42
          clear c42
          obtain rfl := Option.some.inj H
          go_enter Tryd.func3, Tryd.ntmps3
          try go_wp2_with (first | (refine zBE 2 #[.int .i64 a0_0, .slice A0_1 l0_1.length c0_1] 24 ?_; intro gb384 hg w43 hbox hb; have BK384 := zA (hbox); have GW384 := zA (zBH hg HB.out); have GE384 := zA (zBH hg HB.out); replace HB := zA (kQ (zQ HB.out) hb); clear hb hbox hg; obtain ⟨hcz44_0, hcz44_1, hfz44_0, hfz44_1⟩ := zB3 BK384.out) | (refine zO (some 22) Tryd.func5 #[.agg #[.int .i64 a0_0, .slice A0_1 l0_1.length c0_1], .int .i64 1048576] ?_; (with_reducible refine (laws_szAlphabet.calls a0_0 _ _ l0_1 1048576 t385 _ ?side1 ?side2 A5.out).mono ?_); (case side1 => exact zS (kO HR0_1.out HB.out)); (case side2 => exact HC0_1.out); rintro e w45 ⟨rfl, hb⟩; refine ⟨_, rfl, ?_⟩; replace BK384 := zA (zB1 BK384.out hb); replace HB := zA (kQ (zT HB.out GE384.out) hb); (try clear hb); obtain ⟨hcz46_0, hcz46_1, hfz46_0, hfz46_1⟩ := zB3 BK384.out) | (refine zO (some 27) Tryd.func7 #[.agg #[.int .i64 a0_0, .slice A0_1 l0_1.length c0_1]] ?_; (with_reducible refine (laws_toAlphabet.calls k a0_0 _ _ l0_1 t386 t387 _ ?side1 ?side2 A10.out).mono ?_); (case side1 => exact zS (kO HR0_1.out HB.out)); (case side2 => exact HC0_1.out); rintro e w47 ⟨v388, rfl, ho0, hb⟩; refine ⟨_, rfl, ?_⟩; have HO389 := zA (kI ho0 (kP (zT HB.out GE384.out))); replace BK384 := zA (zB1 BK384.out hb); replace HB := zA (kQ (zT HB.out GE384.out) hb); (try clear hb); (try clear ho0)) | (refine zO (some 29) Tryd.func8 #[.slice A1 l1.length c1] ?_; (with_reducible refine (laws_toInt64S.calls k _ _ l1 t390 _ ?side1 ?side2 A11.out).mono ?_); (case side1 => exact zS (kO HR1.out HB.out)); (case side2 => exact HC1.out); rintro e w48 ⟨v391, rfl, ho0, hb⟩; refine ⟨_, rfl, ?_⟩; have HO392 := zA (kI (kF ho0 (kH (zP HO389.out))) (kP (zT HB.out GE384.out))); replace HO389 := zA (kE (zP HO389.out) (kC ho0) hb); replace BK384 := zA (zB1 BK384.out hb); replace HB := zA (kQ (zT HB.out GE384.out) hb); (try clear hb); (try clear ho0); obtain ⟨Ao49, co49, eo49⟩ := kM HO389.out; subst eo49; obtain ⟨Ao50, co50, eo50⟩ := kM HO392.out; subst eo50) | (refine zO (some 30) Tryd.func6 #[.agg #[.int .i64 t386, .slice Ao49 t387.length co49], .slice Ao50 t390.length co50] ?_; (with_reducible refine (spec_LongestChain.calls k t386 _ _ t387 _ _ t390 t393 t396 _ ?side1 ?side2 ?side3 ?side4 A12.out).mono ?_); (case side1 => exact zS (kB HO389.out).2.2); (case side2 => exact (kB HO389.out).2.1); (case side3 => exact zS (kB HO392.out).2.2); (case side4 => exact (kB HO392.out).2.1); rintro e w51 ⟨v394, rfl, ho0, hb⟩; refine ⟨_, rfl, ?_⟩; have HO395 := zA (kI (kF (kF ho0 (kH (zP HO389.out))) (kH (zP HO392.out))) (kP (zT HB.out GE384.out))); replace HO389 := zA (kE (zP HO389.out) (kC ho0) hb); replace HO392 := zA (kE (zP HO392.out) (kC ho0) hb); replace BK384 := zA (zB1 BK384.out hb); replace HB := zA (kQ (zT HB.out GE384.out) hb); (try clear hb); (try clear ho0); obtain ⟨hcz52_0, hcz52_1, hfz52_0, hfz52_1⟩ := zB3 BK384.out) | (refine zO (some 34) Tryd.func7 #[.agg #[.int .i64 a0_0, .slice A0_1 l0_1.length c0_1]] ?_; (with_reducible refine (laws_toAlphabet.calls k a0_0 _ _ l0_1 t397 t398 _ ?side1 ?side2 A13.out).mono ?_); (case side1 => exact zS (kO HR0_1.out HB.out)); (case side2 => exact HC0_1.out); rintro e w53 ⟨v399, rfl, ho0, hb⟩; refine ⟨_, rfl, ?_⟩; have HO400 := zA (kI (kF (kF (kF ho0 (kH (zP HO389.out))) (kH (zP HO392.out))) (kH (zP HO395.out))) (kP (zT HB.out GE384.out))); replace HO389 := zA (kE (zP HO389.out) (kC ho0) hb); replace HO392 := zA (kE (zP HO392.out) (kC ho0) hb); replace HO395 := zA (kE (zP HO395.out) (kC ho0) hb); replace BK384 := zA (zB1 BK384.out hb); replace HB := zA (kQ (zT HB.out GE384.out) hb); (try clear hb); (try clear ho0)) | (refine zBE 8 #[.int .i64 0, .slice none 0 0] 28 ?_; intro gb401 hg w54 hbox hb; replace HO389 := zA (kL (zP HO389.out) hb); replace HO392 := zA (kL (zP HO392.out) hb); replace HO395 := zA (kL (zP HO395.out) hb); replace HO400 := zA (kL (zP HO400.out) hb); have BK401 := zA (hbox); have GW401 := zA (zB6 hg (kP (zT HB.out GE384.out)) : w.heap.size ≤ gb401); have GE401 := zA (zB6 hg (kP (zT HB.out GE384.out)) : w.heap.size ≤ gb401); replace HB := zA (kQ (zT HB.out GE384.out) hb); have NB384_401 := zA (zB4 hg BK384.out : gb384 ≠ gb401); have NB401_384 := zA (zB5 hg BK384.out : gb401 ≠ gb384); replace BK384 := zA (zB1 BK384.out hb); clear hb hbox hg; have hnb55 := NB401_384.out; have hnc55 := NB384_401.out; obtain ⟨hcz56_0, hcz56_1, hfz56_0, hfz56_1⟩ := zB3 BK401.out; obtain ⟨Ao57, co57, eo57⟩ := kM HO400.out; subst eo57) | (refine zO (some 36) Tryd.func8 #[.slice A1 l1.length c1] ?_; (with_reducible refine (laws_toInt64S.calls k _ _ l1 t402 _ ?side1 ?side2 A14.out).mono ?_); (case side1 => exact kO HR1.out (zV HB.out GE384.out GE401.out)); (case side2 => exact HC1.out); rintro e w58 ⟨v403, rfl, ho0, hb⟩; refine ⟨_, rfl, ?_⟩; have HO404 := zA (kI (kF (kF (kF (kF ho0 (kH (zP (zFG HO389.out BK401.out (.int .i64 t397) (.slice Ao57 t398.length co57))))) (kH (zP (zFG HO392.out BK401.out (.int .i64 t397) (.slice Ao57 t398.length co57))))) (kH (zP (zFG HO395.out BK401.out (.int .i64 t397) (.slice Ao57 t398.length co57))))) (kH (zP (zFG HO400.out BK401.out (.int .i64 t397) (.slice Ao57 t398.length co57))))) (kP (zV HB.out GE384.out GE401.out))); replace HO389 := zA (kE (zP (zFG HO389.out BK401.out (.int .i64 t397) (.slice Ao57 t398.length co57))) (kC ho0) hb); replace HO392 := zA (kE (zP (zFG HO392.out BK401.out (.int .i64 t397) (.slice Ao57 t398.length co57))) (kC ho0) hb); replace HO395 := zA (kE (zP (zFG HO395.out BK401.out (.int .i64 t397) (.slice Ao57 t398.length co57))) (kC ho0) hb); replace HO400 := zA (kE (zP (zFG HO400.out BK401.out (.int .i64 t397) (.slice Ao57 t398.length co57))) (kC ho0) hb); replace BK384 := zA (blk_below (g := gb384) (o := .cells #[.int .i64 a0_0, .slice A0_1 l0_1.length c0_1] 24 (0, 0)) (zBG BK384.out NB384_401.out NB384_401.out) hb); replace BK401 := zA (blk_below (g := gb401) (o := .cells #[.int .i64 t397, .slice Ao57 t398.length co57] 28 (0, 0)) (zRP BK401.out) hb); replace HB := zA (kQ (zV HB.out GE384.out GE401.out) hb); (try clear hb); (try clear ho0); obtain ⟨hcz59_0, hcz59_1, hfz59_0, hfz59_1⟩ := zB3 BK401.out; obtain ⟨Ao60, co60, eo60⟩ := kM HO404.out; subst eo60) | (refine zO (some 40) Tryd.func9 #[.agg #[.int .i64 t397, .slice Ao57 t398.length co57], .slice Ao60 t402.length co60] ?_; (with_reducible refine (impl_LongestChain.calls k t397 _ _ t398 (fun k_ => some k_ = (.slice Ao60 t402.length co60 : Value).ownBlock) _ _ t402 t405 t408 _ ?side1 ?side2 ?side3 ?side4 A15.out).mono ?_); (case side1 => exact zS (kB HO400.out).2.2); (case side2 => exact (kB HO400.out).2.1); (case side3 => exact jL (jK rfl (kD (kD (HO404.out) BK384.out (by decide)) BK401.out (by decide)))); (case side4 => exact TabW.below HT.out (zV HB.out GE384.out GE401.out)); rintro e w61 ⟨v406, rfl, ho0, hb⟩; refine ⟨_, rfl, ?_⟩; have HO407 := zA (kI (kF (kF (kF (kF (kF (kA (ok' := fun k_ => True) ho0 (fun _ hk_ => trivial)) (kH (zP HO389.out))) (kH (zP HO392.out))) (kH (zP HO395.out))) (kH (zP HO400.out))) (kH (zP HO404.out))) (kP (zV HB.out GE384.out GE401.out))); replace HO389 := zA (kE (zP HO389.out) (kC ho0) hb); replace HO392 := zA (kE (zP HO392.out) (kC ho0) hb); replace HO395 := zA (kE (zP HO395.out) (kC ho0) hb); replace HO400 := zA (kE (zP HO400.out) (kC ho0) hb); replace HO404 := zA (kE (zP HO404.out) (kC ho0) hb); replace BK384 := zA (zB1 BK384.out hb); replace BK401 := zA (zB1 BK401.out hb); replace HB := zA (kQ (zV HB.out GE384.out GE401.out) hb); (try clear hb); (try clear ho0); obtain ⟨Ao62, co62, eo62⟩ := kM HO407.out; subst eo62; obtain ⟨Ao63, co63, eo63⟩ := kM HO395.out; subst eo63) | (refine zO (some 45) Tryd.func10 #[.slice Ao62 t405.length co62, .slice Ao63 t393.length co63] ?_; (with_reducible refine (laws_eqInt64S_BFnExactLongestChain.calls k _ _ t405 _ _ t393 true _ ?side1 ?side2 ?side3 ?side4 A16.out).mono ?_); (case side1 => exact zS (kB HO407.out).2.2); (case side2 => exact (kB HO407.out).2.1); (case side3 => exact zS (kB HO395.out).2.2); (case side4 => exact (kB HO395.out).2.1); rintro e w64 ⟨rfl, hb⟩; refine ⟨_, rfl, ?_⟩; replace HO389 := zA (kL (zP HO389.out) hb); replace HO392 := zA (kL (zP HO392.out) hb); replace HO395 := zA (kL (zP HO395.out) hb); replace HO400 := zA (kL (zP HO400.out) hb); replace HO404 := zA (kL (zP HO404.out) hb); replace HO407 := zA (kL (zP HO407.out) hb); replace BK384 := zA (zB1 BK384.out hb); replace BK401 := zA (zB1 BK401.out hb); replace HB := zA (kQ (zV HB.out GE384.out GE401.out) hb); (try clear hb)))
          replace HO389 := zA (zH HO389.out)
          replace HO392 := zA (zH HO392.out)
          replace HO395 := zA (zH HO395.out)
          replace HO400 := zA (zH HO400.out)
          replace HO404 := zA (zH HO404.out)
          replace HO407 := zA (zH HO407.out)
          replace BK384 := zA (zK BK384.out)
          replace BK401 := zA (zK BK401.out)
          replace HB := zA (zD HB.out)
          refine start_ (n := 5) (S := fun w' => w'.cell? ⟨gb401, 0, none⟩ = some (.int .i64 t397) ∧ w'.cell? ⟨gb401, 1, none⟩ = some (.slice Ao57 t398.length co57) ∧ w'.cell? ⟨gb384, 0, none⟩ = some (.int .i64 a0_0) ∧ w'.cell? ⟨gb384, 1, none⟩ = some (.slice A0_1 l0_1.length c0_1)) (ds := []) #[false, false, false, false, false] (by kernel_rfl) rfl rfl ⟨(kV BK401.out 0).trans rfl, (kV BK401.out 1).trans rfl, (kV BK384.out 0).trans rfl, (kV BK384.out 1).trans rfl⟩ (fun hHeld => ?_)
          generalize w64.drew = w65 at HO389 HO392 HO395 HO400 HO404 HO407 BK384 BK401 HB hHeld ⊢
          refine take_ (i := 0) (N := some 52) (v := ?_) (a' := ?_) #[true, false, false, false, false] rfl rfl (by kernel_rfl) (fun _ _ _ h => h) (Or.inl ⟨by rfl, ?_⟩) hHeld ?_ ?_
          rotate_left
          ·rintro w' ⟨s0, s1, s2, s3⟩
           go_simp
           with_reducible rfl
          rotate_left
          ·simp only [Act.put, zL, zM, zN, i64_w, i32_w]
           rfl
          refine take_ (i := 1) (N := some 53) (v := ?_) (a' := ?_) #[true, true, false, false, false] rfl rfl (by kernel_rfl) (fun _ _ _ h => h) (Or.inl ⟨by rfl, ?_⟩) hHeld ?_ ?_
          rotate_left
          ·rintro w' ⟨s0, s1, s2, s3⟩
           go_simp
           with_reducible rfl
          rotate_left
          ·simp only [Act.put, zL, zM, zN, i64_w, i32_w]
           rfl
          refine one_ (i := 2) (N := some 54) #[true, true, true, false, false] rfl rfl (by kernel_rfl) (by decide) (fun K hK => ?_)
          refine goes_ Tryd.func7 (by kernel_rfl) rfl #[.agg #[.int .i64 a0_0, .slice A0_1 l0_1.length c0_1]] (by rfl) rfl rfl zg ?_
          with_reducible refine (laws_toAlphabet.calls k a0_0 _ _ l0_1 t410 t411 _ ?side1 ?side2 A19.out).mono ?_
          (case side1 => exact zS (kO HR0_1.out HB.out))
          (case side2 => exact HC0_1.out)
          rintro e w66 ⟨v412, rfl, ho0, hb⟩
          refine ⟨_, rfl, ?_⟩
          have HO413 := zA (kI (kF (kF (kF (kF (kF (kF ho0 (kH (zP HO389.out))) (kH (zP HO392.out))) (kH (zP HO395.out))) (kH (zP HO400.out))) (kH (zP HO404.out))) (kH (zP HO407.out))) (kP (zV HB.out GE384.out GE401.out)))
          replace HO389 := zA (kE (zP HO389.out) (kC ho0) hb)
          replace HO392 := zA (kE (zP HO392.out) (kC ho0) hb)
          replace HO395 := zA (kE (zP HO395.out) (kC ho0) hb)
          replace HO400 := zA (kE (zP HO400.out) (kC ho0) hb)
          replace HO404 := zA (kE (zP HO404.out) (kC ho0) hb)
          replace HO407 := zA (kE (zP HO407.out) (kC ho0) hb)
          replace BK384 := zA (zB1 BK384.out hb)
          replace BK401 := zA (zB1 BK401.out hb)
          replace HB := zA (kQ (zV HB.out GE384.out GE401.out) hb)
          (try clear hb)
          (try clear hb2)
          (try clear hk)
          (try clear hi)
          (try clear hgw)
          (try clear ho0)
          obtain ⟨Ao67, co67, eo67⟩ := kM HO413.out
          (first | subst eo67 | (injection eo67 with f1_ f2_ f3_; have f4_ := f1_.symm; have f5_ := f3_.symm; clear f1_ f2_ f3_; subst f4_; subst f5_))
          refine hK.out _ _ ⟨(kV BK401.out 0).trans rfl, (kV BK401.out 1).trans rfl, (kV BK384.out 0).trans rfl, (kV BK384.out 1).trans rfl⟩ (fun hHeld => ?_)
          clear hK K
          refine norm_ (a' := ?_) ?_ ?_
          rotate_left
          ·show Act.put _ (some 54) _ = _
           simp only [Act.put, zL, zM, zN, i64_w, i32_w]
           rfl
          refine one_ (i := 3) (N := some 55) #[true, true, true, true, false] rfl rfl (by kernel_rfl) (by decide) (fun K hK => ?_)
          refine goes_ Tryd.func11 (by kernel_rfl) rfl #[.agg #[.int .i64 t397, .slice Ao57 t398.length co57], .agg #[.int .i64 t410, .slice Ao67 t411.length co67]] (by rfl) rfl rfl zg ?_
          with_reducible refine (laws_eqAlphabet.calls k t397 _ _ t398 t410 _ _ t411 true _ ?side1 ?side2 ?side3 ?side4 A20.out).mono ?_
          (case side1 => exact zS (kB HO400.out).2.2)
          (case side2 => exact (kB HO400.out).2.1)
          (case side3 => exact zS (kB HO413.out).2.2)
          (case side4 => exact (kB HO413.out).2.1)
          rintro e w68 ⟨rfl, hb⟩
          refine ⟨_, rfl, ?_⟩
          replace HO389 := zA (kL (zP HO389.out) hb)
          replace HO392 := zA (kL (zP HO392.out) hb)
          replace HO395 := zA (kL (zP HO395.out) hb)
          replace HO400 := zA (kL (zP HO400.out) hb)
          replace HO404 := zA (kL (zP HO404.out) hb)
          replace HO407 := zA (kL (zP HO407.out) hb)
          replace HO413 := zA (kL (zP HO413.out) hb)
          replace BK384 := zA (zB1 BK384.out hb)
          replace BK401 := zA (zB1 BK401.out hb)
          replace HB := zA (kQ (zV HB.out GE384.out GE401.out) hb)
          (try clear hb)
          (try clear hb2)
          (try clear hk)
          (try clear hi)
          (try clear hgw)
          refine hK.out _ _ ⟨(kV BK401.out 0).trans rfl, (kV BK401.out 1).trans rfl, (kV BK384.out 0).trans rfl, (kV BK384.out 1).trans rfl⟩ (fun hHeld => ?_)
          clear hK K
          refine norm_ (a' := ?_) ?_ ?_
          rotate_left
          ·show Act.put _ (some 55) _ = _
           simp only [Act.put, zL, zM, zN, i64_w, i32_w]
           rfl
          refine pure_ (i := 4) (N := some 56) (v := ?_) (a' := ?_) #[true, true, true, true, true] rfl rfl (by kernel_rfl) (fun _ _ _ h => h) (Or.inl ⟨by rfl, ?_⟩) ?_ ?_
          rotate_left
          ·intro w'
           go_simp
           with_reducible rfl
          rotate_left
          ·simp only [Act.put, zL, zM, zN, i64_w, i32_w]
           rfl
          refine done_ (by kernel_rfl) ?_
          try go_wp2_with (first | (refine zO (some 59) Tryd.func8 #[.slice A1 l1.length c1] ?_; (with_reducible refine (laws_toInt64S.calls k _ _ l1 t415 _ ?side1 ?side2 A22.out).mono ?_); (case side1 => exact zS (kO HR1.out HB.out)); (case side2 => exact HC1.out); rintro e w69 ⟨v416, rfl, ho0, hb⟩; refine ⟨_, rfl, ?_⟩; have HO417 := zA (kI (kF (kF (kF (kF (kF (kF (kF ho0 (kH (zP HO389.out))) (kH (zP HO392.out))) (kH (zP HO395.out))) (kH (zP HO400.out))) (kH (zP HO404.out))) (kH (zP HO407.out))) (kH (zP HO413.out))) (kP (zV HB.out GE384.out GE401.out))); replace HO389 := zA (kE (zP HO389.out) (kC ho0) hb); replace HO392 := zA (kE (zP HO392.out) (kC ho0) hb); replace HO395 := zA (kE (zP HO395.out) (kC ho0) hb); replace HO400 := zA (kE (zP HO400.out) (kC ho0) hb); replace HO404 := zA (kE (zP HO404.out) (kC ho0) hb); replace HO407 := zA (kE (zP HO407.out) (kC ho0) hb); replace HO413 := zA (kE (zP HO413.out) (kC ho0) hb); replace BK384 := zA (zB1 BK384.out hb); replace BK401 := zA (zB1 BK401.out hb); replace HB := zA (kQ (zV HB.out GE384.out GE401.out) hb); (try clear hb); (try clear ho0); obtain ⟨Ao70, co70, eo70⟩ := kM HO417.out; subst eo70) | (refine zO (some 60) Tryd.func10 #[.slice Ao60 t402.length co60, .slice Ao70 t415.length co70] ?_; (with_reducible refine (laws_eqInt64S_BFnExactLongestChain.calls k _ _ t402 _ _ t415 true _ ?side1 ?side2 ?side3 ?side4 A23.out).mono ?_); (case side1 => exact zS (kB HO404.out).2.2); (case side2 => exact (kB HO404.out).2.1); (case side3 => exact zS (kB HO417.out).2.2); (case side4 => exact (kB HO417.out).2.1); rintro e w71 ⟨rfl, hb⟩; refine ⟨_, rfl, ?_⟩; replace HO389 := zA (kL (zP HO389.out) hb); replace HO392 := zA (kL (zP HO392.out) hb); replace HO395 := zA (kL (zP HO395.out) hb); replace HO400 := zA (kL (zP HO400.out) hb); replace HO404 := zA (kL (zP HO404.out) hb); replace HO407 := zA (kL (zP HO407.out) hb); replace HO413 := zA (kL (zP HO413.out) hb); replace HO417 := zA (kL (zP HO417.out) hb); replace BK384 := zA (zB1 BK384.out hb); replace BK401 := zA (zB1 BK401.out hb); replace HB := zA (kQ (zV HB.out GE384.out GE401.out) hb); (try clear hb); obtain ⟨hcz72_0, hcz72_1, hfz72_0, hfz72_1⟩ := zB3 BK401.out) | (refine zO (some 64) Tryd.func12 #[.agg #[.int .i64 t397, .slice Ao57 t398.length co57], .int .i64 1] ?_; (with_reducible refine (laws_markAlphabet.calls k t397 (fun k_ => some k_ = (.slice Ao57 t398.length co57 : Value).ownBlock) (.slice Ao57 t398.length co57) t398 1 t419 t420 w _ ?side1 ?side2 A25.out).mono ?_); (case side1 => exact zV HB.out GE384.out GE401.out); (case side2 => exact jK rfl HO400.out); rintro e w73 ⟨rfl, hy0, hb, hkp⟩; refine ⟨_, rfl, ?_⟩; replace BK384 := zA (blk_kept (zR BK384.out) hkp (fun hs_ => (fun e_ => (Kd.R_ne HO400.out BK384.out (by decide)) e_) hs_)); replace HO389 := zA (kA (ok' := fun k_ => some k_ ≠ (.slice Ao50 t390.length co50 : Value).ownBlock ∧ some k_ ≠ (.slice Ao63 t393.length co63 : Value).ownBlock ∧ some k_ ≠ (.slice Ao57 t398.length co57 : Value).ownBlock ∧ some k_ ≠ (.slice Ao60 t402.length co60 : Value).ownBlock ∧ some k_ ≠ (.slice Ao62 t405.length co62 : Value).ownBlock ∧ some k_ ≠ (.slice Ao67 t411.length co67 : Value).ownBlock ∧ some k_ ≠ (.slice Ao70 t415.length co70 : Value).ownBlock) (Kd.R_keptB (HO389.out) hkp (fun k_ hk_ hs_ => (hk_.1.1.1.1.2) hs_)) (fun k_ hk_ => ⟨hk_.1.1.1.1.1.1.1.2, hk_.1.1.1.1.1.1.2, hk_.1.1.1.1.1.2, hk_.1.1.1.1.2, hk_.1.1.1.2, hk_.1.1.2, hk_.1.2⟩)); replace HO392 := zA (kA (ok' := fun k_ => some k_ ≠ (.slice Ao49 t387.length co49 : Value).ownBlock ∧ some k_ ≠ (.slice Ao63 t393.length co63 : Value).ownBlock ∧ some k_ ≠ (.slice Ao57 t398.length co57 : Value).ownBlock ∧ some k_ ≠ (.slice Ao60 t402.length co60 : Value).ownBlock ∧ some k_ ≠ (.slice Ao62 t405.length co62 : Value).ownBlock ∧ some k_ ≠ (.slice Ao67 t411.length co67 : Value).ownBlock ∧ some k_ ≠ (.slice Ao70 t415.length co70 : Value).ownBlock) (Kd.R_keptB (HO392.out) hkp (fun k_ hk_ hs_ => (hk_.1.1.1.1.2) hs_)) (fun k_ hk_ => ⟨hk_.1.1.1.1.1.1.1.2, hk_.1.1.1.1.1.1.2, hk_.1.1.1.1.1.2, hk_.1.1.1.1.2, hk_.1.1.1.2, hk_.1.1.2, hk_.1.2⟩)); replace HO395 := zA (kA (ok' := fun k_ => some k_ ≠ (.slice Ao49 t387.length co49 : Value).ownBlock ∧ some k_ ≠ (.slice Ao50 t390.length co50 : Value).ownBlock ∧ some k_ ≠ (.slice Ao57 t398.length co57 : Value).ownBlock ∧ some k_ ≠ (.slice Ao60 t402.length co60 : Value).ownBlock ∧ some k_ ≠ (.slice Ao62 t405.length co62 : Value).ownBlock ∧ some k_ ≠ (.slice Ao67 t411.length co67 : Value).ownBlock ∧ some k_ ≠ (.slice Ao70 t415.length co70 : Value).ownBlock) (Kd.R_keptB (HO395.out) hkp (fun k_ hk_ hs_ => (hk_.1.1.1.1.2) hs_)) (fun k_ hk_ => ⟨hk_.1.1.1.1.1.1.1.2, hk_.1.1.1.1.1.1.2, hk_.1.1.1.1.1.2, hk_.1.1.1.1.2, hk_.1.1.1.2, hk_.1.1.2, hk_.1.2⟩)); replace BK401 := zA (blk_kept (zR BK401.out) hkp (fun hs_ => (fun e_ => (Kd.R_ne HO400.out BK401.out (by decide)) e_) hs_)); replace HO400 := zA (Kd.R_reok rfl hy0 (fun k_ e_ => HO400.out.1 k_ e_)); replace HO404 := zA (kA (ok' := fun k_ => some k_ ≠ (.slice Ao49 t387.length co49 : Value).ownBlock ∧ some k_ ≠ (.slice Ao50 t390.length co50 : Value).ownBlock ∧ some k_ ≠ (.slice Ao63 t393.length co63 : Value).ownBlock ∧ some k_ ≠ (.slice Ao57 t398.length co57 : Value).ownBlock ∧ some k_ ≠ (.slice Ao62 t405.length co62 : Value).ownBlock ∧ some k_ ≠ (.slice Ao67 t411.length co67 : Value).ownBlock ∧ some k_ ≠ (.slice Ao70 t415.length co70 : Value).ownBlock) (Kd.R_keptB (HO404.out) hkp (fun k_ hk_ hs_ => (hk_.1.1.1.2) hs_)) (fun k_ hk_ => ⟨hk_.1.1.1.1.1.1.1.2, hk_.1.1.1.1.1.1.2, hk_.1.1.1.1.1.2, hk_.1.1.1.1.2, hk_.1.1.1.2, hk_.1.1.2, hk_.1.2⟩)); replace HO407 := zA (kA (ok' := fun k_ => some k_ ≠ (.slice Ao49 t387.length co49 : Value).ownBlock ∧ some k_ ≠ (.slice Ao50 t390.length co50 : Value).ownBlock ∧ some k_ ≠ (.slice Ao63 t393.length co63 : Value).ownBlock ∧ some k_ ≠ (.slice Ao57 t398.length co57 : Value).ownBlock ∧ some k_ ≠ (.slice Ao60 t402.length co60 : Value).ownBlock ∧ some k_ ≠ (.slice Ao67 t411.length co67 : Value).ownBlock ∧ some k_ ≠ (.slice Ao70 t415.length co70 : Value).ownBlock) (Kd.R_keptB (HO407.out) hkp (fun k_ hk_ hs_ => (hk_.1.1.1.2) hs_)) (fun k_ hk_ => ⟨hk_.1.1.1.1.1.1.1.2, hk_.1.1.1.1.1.1.2, hk_.1.1.1.1.1.2, hk_.1.1.1.1.2, hk_.1.1.1.2, hk_.1.1.2, hk_.1.2⟩)); replace HO413 := zA (kA (ok' := fun k_ => some k_ ≠ (.slice Ao49 t387.length co49 : Value).ownBlock ∧ some k_ ≠ (.slice Ao50 t390.length co50 : Value).ownBlock ∧ some k_ ≠ (.slice Ao63 t393.length co63 : Value).ownBlock ∧ some k_ ≠ (.slice Ao57 t398.length co57 : Value).ownBlock ∧ some k_ ≠ (.slice Ao60 t402.length co60 : Value).ownBlock ∧ some k_ ≠ (.slice Ao62 t405.length co62 : Value).ownBlock ∧ some k_ ≠ (.slice Ao70 t415.length co70 : Value).ownBlock) (Kd.R_keptB (HO413.out) hkp (fun k_ hk_ hs_ => (hk_.1.1.1.2) hs_)) (fun k_ hk_ => ⟨hk_.1.1.1.1.1.1.1.2, hk_.1.1.1.1.1.1.2, hk_.1.1.1.1.1.2, hk_.1.1.1.1.2, hk_.1.1.1.2, hk_.1.1.2, hk_.1.2⟩)); replace HO417 := zA (kA (ok' := fun k_ => some k_ ≠ (.slice Ao49 t387.length co49 : Value).ownBlock ∧ some k_ ≠ (.slice Ao50 t390.length co50 : Value).ownBlock ∧ some k_ ≠ (.slice Ao63 t393.length co63 : Value).ownBlock ∧ some k_ ≠ (.slice Ao57 t398.length co57 : Value).ownBlock ∧ some k_ ≠ (.slice Ao60 t402.length co60 : Value).ownBlock ∧ some k_ ≠ (.slice Ao62 t405.length co62 : Value).ownBlock ∧ some k_ ≠ (.slice Ao67 t411.length co67 : Value).ownBlock) (Kd.R_keptB (HO417.out) hkp (fun k_ hk_ hs_ => (hk_.1.1.1.2) hs_)) (fun k_ hk_ => ⟨hk_.1.1.1.1.1.1.1.2, hk_.1.1.1.1.1.1.2, hk_.1.1.1.1.1.2, hk_.1.1.1.1.2, hk_.1.1.1.2, hk_.1.1.2, hk_.1.2⟩)); replace HB := zA (hb); (try clear hb); (try clear hkp); (try clear hy0)) | (refine zO (some 67) Tryd.func13 #[.slice Ao60 t402.length co60, .int .i64 t419] ?_; (with_reducible refine (laws_markInt64S.calls k (fun k_ => some k_ = (.slice Ao60 t402.length co60 : Value).ownBlock) (.slice Ao60 t402.length co60) t402 t419 t421 t422 w _ ?side1 ?side2 A26.out).mono ?_); (case side1 => exact zV HB.out GE384.out GE401.out); (case side2 => exact jK rfl HO404.out); rintro e w74 ⟨rfl, hy0, hb, hkp⟩; refine ⟨_, rfl, ?_⟩; replace BK384 := zA (blk_kept (zR BK384.out) hkp (fun hs_ => (fun e_ => (Kd.R_ne HO404.out BK384.out (by decide)) e_) hs_)); replace HO389 := zA (kA (ok' := fun k_ => some k_ ≠ (.slice Ao50 t390.length co50 : Value).ownBlock ∧ some k_ ≠ (.slice Ao63 t393.length co63 : Value).ownBlock ∧ some k_ ≠ (.slice Ao57 t398.length co57 : Value).ownBlock ∧ some k_ ≠ (.slice Ao60 t402.length co60 : Value).ownBlock ∧ some k_ ≠ (.slice Ao62 t405.length co62 : Value).ownBlock ∧ some k_ ≠ (.slice Ao67 t411.length co67 : Value).ownBlock ∧ some k_ ≠ (.slice Ao70 t415.length co70 : Value).ownBlock) (Kd.R_keptB (HO389.out) hkp (fun k_ hk_ hs_ => (hk_.2.2.2.1) hs_)) (fun k_ hk_ => ⟨hk_.1.1, hk_.1.2.1, hk_.1.2.2.1, hk_.1.2.2.2.1, hk_.1.2.2.2.2.1, hk_.1.2.2.2.2.2.1, hk_.1.2.2.2.2.2.2⟩)); replace HO392 := zA (kA (ok' := fun k_ => some k_ ≠ (.slice Ao49 t387.length co49 : Value).ownBlock ∧ some k_ ≠ (.slice Ao63 t393.length co63 : Value).ownBlock ∧ some k_ ≠ (.slice Ao57 t398.length co57 : Value).ownBlock ∧ some k_ ≠ (.slice Ao60 t402.length co60 : Value).ownBlock ∧ some k_ ≠ (.slice Ao62 t405.length co62 : Value).ownBlock ∧ some k_ ≠ (.slice Ao67 t411.length co67 : Value).ownBlock ∧ some k_ ≠ (.slice Ao70 t415.length co70 : Value).ownBlock) (Kd.R_keptB (HO392.out) hkp (fun k_ hk_ hs_ => (hk_.2.2.2.1) hs_)) (fun k_ hk_ => ⟨hk_.1.1, hk_.1.2.1, hk_.1.2.2.1, hk_.1.2.2.2.1, hk_.1.2.2.2.2.1, hk_.1.2.2.2.2.2.1, hk_.1.2.2.2.2.2.2⟩)); replace HO395 := zA (kA (ok' := fun k_ => some k_ ≠ (.slice Ao49 t387.length co49 : Value).ownBlock ∧ some k_ ≠ (.slice Ao50 t390.length co50 : Value).ownBlock ∧ some k_ ≠ (.slice Ao57 t398.length co57 : Value).ownBlock ∧ some k_ ≠ (.slice Ao60 t402.length co60 : Value).ownBlock ∧ some k_ ≠ (.slice Ao62 t405.length co62 : Value).ownBlock ∧ some k_ ≠ (.slice Ao67 t411.length co67 : Value).ownBlock ∧ some k_ ≠ (.slice Ao70 t415.length co70 : Value).ownBlock) (Kd.R_keptB (HO395.out) hkp (fun k_ hk_ hs_ => (hk_.2.2.2.1) hs_)) (fun k_ hk_ => ⟨hk_.1.1, hk_.1.2.1, hk_.1.2.2.1, hk_.1.2.2.2.1, hk_.1.2.2.2.2.1, hk_.1.2.2.2.2.2.1, hk_.1.2.2.2.2.2.2⟩)); replace HO400 := zA (kA (ok' := fun k_ => some k_ ≠ (.slice Ao49 t387.length co49 : Value).ownBlock ∧ some k_ ≠ (.slice Ao50 t390.length co50 : Value).ownBlock ∧ some k_ ≠ (.slice Ao63 t393.length co63 : Value).ownBlock ∧ some k_ ≠ (.slice Ao60 t402.length co60 : Value).ownBlock ∧ some k_ ≠ (.slice Ao62 t405.length co62 : Value).ownBlock ∧ some k_ ≠ (.slice Ao67 t411.length co67 : Value).ownBlock ∧ some k_ ≠ (.slice Ao70 t415.length co70 : Value).ownBlock) (Kd.R_keptB (HO400.out) hkp (fun k_ hk_ hs_ => (hk_.1.1.1.2) hs_)) (fun k_ hk_ => ⟨hk_.1.1.1.1.1.1.1.2, hk_.1.1.1.1.1.1.2, hk_.1.1.1.1.1.2, hk_.1.1.1.1.2, hk_.1.1.1.2, hk_.1.1.2, hk_.1.2⟩)); replace BK401 := zA (blk_kept (zR BK401.out) hkp (fun hs_ => (fun e_ => (Kd.R_ne HO404.out BK401.out (by decide)) e_) hs_)); replace HO404 := zA (Kd.R_reok rfl hy0 (fun k_ e_ => HO404.out.1 k_ e_)); replace HO407 := zA (kA (ok' := fun k_ => some k_ ≠ (.slice Ao49 t387.length co49 : Value).ownBlock ∧ some k_ ≠ (.slice Ao50 t390.length co50 : Value).ownBlock ∧ some k_ ≠ (.slice Ao63 t393.length co63 : Value).ownBlock ∧ some k_ ≠ (.slice Ao57 t398.length co57 : Value).ownBlock ∧ some k_ ≠ (.slice Ao60 t402.length co60 : Value).ownBlock ∧ some k_ ≠ (.slice Ao67 t411.length co67 : Value).ownBlock ∧ some k_ ≠ (.slice Ao70 t415.length co70 : Value).ownBlock) (Kd.R_keptB (HO407.out) hkp (fun k_ hk_ hs_ => (hk_.2.2.2.2.1) hs_)) (fun k_ hk_ => ⟨hk_.1.1, hk_.1.2.1, hk_.1.2.2.1, hk_.1.2.2.2.1, hk_.1.2.2.2.2.1, hk_.1.2.2.2.2.2.1, hk_.1.2.2.2.2.2.2⟩)); replace HO413 := zA (kA (ok' := fun k_ => some k_ ≠ (.slice Ao49 t387.length co49 : Value).ownBlock ∧ some k_ ≠ (.slice Ao50 t390.length co50 : Value).ownBlock ∧ some k_ ≠ (.slice Ao63 t393.length co63 : Value).ownBlock ∧ some k_ ≠ (.slice Ao57 t398.length co57 : Value).ownBlock ∧ some k_ ≠ (.slice Ao60 t402.length co60 : Value).ownBlock ∧ some k_ ≠ (.slice Ao62 t405.length co62 : Value).ownBlock ∧ some k_ ≠ (.slice Ao70 t415.length co70 : Value).ownBlock) (Kd.R_keptB (HO413.out) hkp (fun k_ hk_ hs_ => (hk_.2.2.2.2.1) hs_)) (fun k_ hk_ => ⟨hk_.1.1, hk_.1.2.1, hk_.1.2.2.1, hk_.1.2.2.2.1, hk_.1.2.2.2.2.1, hk_.1.2.2.2.2.2.1, hk_.1.2.2.2.2.2.2⟩)); replace HO417 := zA (kA (ok' := fun k_ => some k_ ≠ (.slice Ao49 t387.length co49 : Value).ownBlock ∧ some k_ ≠ (.slice Ao50 t390.length co50 : Value).ownBlock ∧ some k_ ≠ (.slice Ao63 t393.length co63 : Value).ownBlock ∧ some k_ ≠ (.slice Ao57 t398.length co57 : Value).ownBlock ∧ some k_ ≠ (.slice Ao60 t402.length co60 : Value).ownBlock ∧ some k_ ≠ (.slice Ao62 t405.length co62 : Value).ownBlock ∧ some k_ ≠ (.slice Ao67 t411.length co67 : Value).ownBlock) (Kd.R_keptB (HO417.out) hkp (fun k_ hk_ hs_ => (hk_.2.2.2.2.1) hs_)) (fun k_ hk_ => ⟨hk_.1.1, hk_.1.2.1, hk_.1.2.2.1, hk_.1.2.2.2.1, hk_.1.2.2.2.2.1, hk_.1.2.2.2.2.2.1, hk_.1.2.2.2.2.2.2⟩)); replace HB := zA (hb); (try clear hb); (try clear hkp); (try clear hy0)) | (go_at_call 10; (with_reducible refine (laws_eqInt64S_BFnExactLongestChain.calls k _ _ t405 _ _ t393 true _ ?side1 ?side2 ?side3 ?side4 A28.out).mono ?_); (case side1 => exact zS (kB HO407.out).2.2); (case side2 => exact (kB HO407.out).2.1); (case side3 => exact zS (kB HO395.out).2.2); (case side4 => exact (kB HO395.out).2.1); rintro e w75 ⟨rfl, hb⟩; replace HO389 := zA (kL (zP HO389.out) hb); replace HO392 := zA (kL (zP HO392.out) hb); replace HO395 := zA (kL (zP HO395.out) hb); replace HO400 := zA (kL (zP HO400.out) hb); replace HO404 := zA (kL (zP HO404.out) hb); replace HO407 := zA (kL (zP HO407.out) hb); replace HO413 := zA (kL (zP HO413.out) hb); replace HO417 := zA (kL (zP HO417.out) hb); replace BK384 := zA (zB1 BK384.out hb); replace BK401 := zA (zB1 BK401.out hb); replace HB := zA (kQ (zV HB.out GE384.out GE401.out) hb); (try clear hb); (try clear hb2); (try clear hk); (try clear hi); (try clear hgw)) | (refine zO (some 83) Tryd.func13 #[.slice Ao62 t405.length co62, .int .i64 1] ?_; (with_reducible refine (laws_markInt64S.calls k (fun k_ => some k_ = (.slice Ao62 t405.length co62 : Value).ownBlock) (.slice Ao62 t405.length co62) t405 1 t424 t425 w _ ?side1 ?side2 A30.out).mono ?_); (case side1 => exact zV HB.out GE384.out GE401.out); (case side2 => exact jK rfl HO407.out); rintro e w76 ⟨rfl, hy0, hb, hkp⟩; refine ⟨_, rfl, ?_⟩; replace BK384 := zA (blk_kept (zR BK384.out) hkp (fun hs_ => (fun e_ => (Kd.R_ne HO407.out BK384.out (by decide)) e_) hs_)); replace HO389 := zA (kA (ok' := fun k_ => some k_ ≠ (.slice Ao50 t390.length co50 : Value).ownBlock ∧ some k_ ≠ (.slice Ao63 t393.length co63 : Value).ownBlock ∧ some k_ ≠ (.slice Ao57 t398.length co57 : Value).ownBlock ∧ some k_ ≠ (.slice Ao60 t402.length co60 : Value).ownBlock ∧ some k_ ≠ (.slice Ao62 t405.length co62 : Value).ownBlock ∧ some k_ ≠ (.slice Ao67 t411.length co67 : Value).ownBlock ∧ some k_ ≠ (.slice Ao70 t415.length co70 : Value).ownBlock) (Kd.R_keptB (HO389.out) hkp (fun k_ hk_ hs_ => (hk_.2.2.2.2.1) hs_)) (fun k_ hk_ => ⟨hk_.1.1, hk_.1.2.1, hk_.1.2.2.1, hk_.1.2.2.2.1, hk_.1.2.2.2.2.1, hk_.1.2.2.2.2.2.1, hk_.1.2.2.2.2.2.2⟩)); replace HO392 := zA (kA (ok' := fun k_ => some k_ ≠ (.slice Ao49 t387.length co49 : Value).ownBlock ∧ some k_ ≠ (.slice Ao63 t393.length co63 : Value).ownBlock ∧ some k_ ≠ (.slice Ao57 t398.length co57 : Value).ownBlock ∧ some k_ ≠ (.slice Ao60 t402.length co60 : Value).ownBlock ∧ some k_ ≠ (.slice Ao62 t405.length co62 : Value).ownBlock ∧ some k_ ≠ (.slice Ao67 t411.length co67 : Value).ownBlock ∧ some k_ ≠ (.slice Ao70 t415.length co70 : Value).ownBlock) (Kd.R_keptB (HO392.out) hkp (fun k_ hk_ hs_ => (hk_.2.2.2.2.1) hs_)) (fun k_ hk_ => ⟨hk_.1.1, hk_.1.2.1, hk_.1.2.2.1, hk_.1.2.2.2.1, hk_.1.2.2.2.2.1, hk_.1.2.2.2.2.2.1, hk_.1.2.2.2.2.2.2⟩)); replace HO395 := zA (kA (ok' := fun k_ => some k_ ≠ (.slice Ao49 t387.length co49 : Value).ownBlock ∧ some k_ ≠ (.slice Ao50 t390.length co50 : Value).ownBlock ∧ some k_ ≠ (.slice Ao57 t398.length co57 : Value).ownBlock ∧ some k_ ≠ (.slice Ao60 t402.length co60 : Value).ownBlock ∧ some k_ ≠ (.slice Ao62 t405.length co62 : Value).ownBlock ∧ some k_ ≠ (.slice Ao67 t411.length co67 : Value).ownBlock ∧ some k_ ≠ (.slice Ao70 t415.length co70 : Value).ownBlock) (Kd.R_keptB (HO395.out) hkp (fun k_ hk_ hs_ => (hk_.2.2.2.2.1) hs_)) (fun k_ hk_ => ⟨hk_.1.1, hk_.1.2.1, hk_.1.2.2.1, hk_.1.2.2.2.1, hk_.1.2.2.2.2.1, hk_.1.2.2.2.2.2.1, hk_.1.2.2.2.2.2.2⟩)); replace HO400 := zA (kA (ok' := fun k_ => some k_ ≠ (.slice Ao49 t387.length co49 : Value).ownBlock ∧ some k_ ≠ (.slice Ao50 t390.length co50 : Value).ownBlock ∧ some k_ ≠ (.slice Ao63 t393.length co63 : Value).ownBlock ∧ some k_ ≠ (.slice Ao60 t402.length co60 : Value).ownBlock ∧ some k_ ≠ (.slice Ao62 t405.length co62 : Value).ownBlock ∧ some k_ ≠ (.slice Ao67 t411.length co67 : Value).ownBlock ∧ some k_ ≠ (.slice Ao70 t415.length co70 : Value).ownBlock) (Kd.R_keptB (HO400.out) hkp (fun k_ hk_ hs_ => (hk_.2.2.2.2.1) hs_)) (fun k_ hk_ => ⟨hk_.1.1, hk_.1.2.1, hk_.1.2.2.1, hk_.1.2.2.2.1, hk_.1.2.2.2.2.1, hk_.1.2.2.2.2.2.1, hk_.1.2.2.2.2.2.2⟩)); replace BK401 := zA (blk_kept (zR BK401.out) hkp (fun hs_ => (fun e_ => (Kd.R_ne HO407.out BK401.out (by decide)) e_) hs_)); replace HO404 := zA (kA (ok' := fun k_ => some k_ ≠ (.slice Ao49 t387.length co49 : Value).ownBlock ∧ some k_ ≠ (.slice Ao50 t390.length co50 : Value).ownBlock ∧ some k_ ≠ (.slice Ao63 t393.length co63 : Value).ownBlock ∧ some k_ ≠ (.slice Ao57 t398.length co57 : Value).ownBlock ∧ some k_ ≠ (.slice Ao62 t405.length co62 : Value).ownBlock ∧ some k_ ≠ (.slice Ao67 t411.length co67 : Value).ownBlock ∧ some k_ ≠ (.slice Ao70 t415.length co70 : Value).ownBlock) (Kd.R_keptB (HO404.out) hkp (fun k_ hk_ hs_ => (hk_.2.2.2.2.1) hs_)) (fun k_ hk_ => ⟨hk_.1.1, hk_.1.2.1, hk_.1.2.2.1, hk_.1.2.2.2.1, hk_.1.2.2.2.2.1, hk_.1.2.2.2.2.2.1, hk_.1.2.2.2.2.2.2⟩)); replace HO407 := zA (Kd.R_reok rfl hy0 (fun k_ e_ => HO407.out.1 k_ e_)); replace HO413 := zA (kA (ok' := fun k_ => some k_ ≠ (.slice Ao49 t387.length co49 : Value).ownBlock ∧ some k_ ≠ (.slice Ao50 t390.length co50 : Value).ownBlock ∧ some k_ ≠ (.slice Ao63 t393.length co63 : Value).ownBlock ∧ some k_ ≠ (.slice Ao57 t398.length co57 : Value).ownBlock ∧ some k_ ≠ (.slice Ao60 t402.length co60 : Value).ownBlock ∧ some k_ ≠ (.slice Ao62 t405.length co62 : Value).ownBlock ∧ some k_ ≠ (.slice Ao70 t415.length co70 : Value).ownBlock) (Kd.R_keptB (HO413.out) hkp (fun k_ hk_ hs_ => (hk_.2.2.2.2.2.1) hs_)) (fun k_ hk_ => ⟨hk_.1.1, hk_.1.2.1, hk_.1.2.2.1, hk_.1.2.2.2.1, hk_.1.2.2.2.2.1, hk_.1.2.2.2.2.2.1, hk_.1.2.2.2.2.2.2⟩)); replace HO417 := zA (kA (ok' := fun k_ => some k_ ≠ (.slice Ao49 t387.length co49 : Value).ownBlock ∧ some k_ ≠ (.slice Ao50 t390.length co50 : Value).ownBlock ∧ some k_ ≠ (.slice Ao63 t393.length co63 : Value).ownBlock ∧ some k_ ≠ (.slice Ao57 t398.length co57 : Value).ownBlock ∧ some k_ ≠ (.slice Ao60 t402.length co60 : Value).ownBlock ∧ some k_ ≠ (.slice Ao62 t405.length co62 : Value).ownBlock ∧ some k_ ≠ (.slice Ao67 t411.length co67 : Value).ownBlock) (Kd.R_keptB (HO417.out) hkp (fun k_ hk_ hs_ => (hk_.2.2.2.2.2.1) hs_)) (fun k_ hk_ => ⟨hk_.1.1, hk_.1.2.1, hk_.1.2.2.1, hk_.1.2.2.2.1, hk_.1.2.2.2.2.1, hk_.1.2.2.2.2.2.1, hk_.1.2.2.2.2.2.2⟩)); replace HB := zA (hb); (try clear hb); (try clear hkp); (try clear hy0)) | ((with_reducible refine kR (f := 14) rfl ?_); refine goesL_ (some 86) rfl rfl Tryd.func14 (by kernel_rfl) rfl #[.slice Ao62 t425.length co62, .int .i64 1] rfl (by (try simp only [List.map_toArray, List.map_cons, List.map_nil]); first | done | (rw [show t425.length = t405.length from (kB HO407.out).1.symm] <;> rfl) | rfl | (simp only [List.length_drop, List.length_take]; rfl)) ?_; (with_reducible refine (laws_heldInt64S.calls k _ _ t425 1 t426 _ ?side1 ?side2 A31.out).mono ?_); (case side1 => exact zS (kB HO407.out).2.2); (case side2 => rw [show t425.length = t405.length from (kB HO407.out).1.symm]; exact (kB HO407.out).2.1); rintro e w' ⟨rfl, ⟨nd, rfl⟩⟩; refine ⟨_, rfl, ?_⟩; obtain ⟨hcz77_0, hcz77_1, hfz77_0, hfz77_1⟩ := zB3 BK384.out) | (refine zO (some 94) Tryd.func7 #[.agg #[.int .i64 a0_0, .slice A0_1 l0_1.length c0_1]] ?_; (with_reducible refine (laws_toAlphabet.calls k a0_0 _ _ l0_1 t427 t428 _ ?side1 ?side2 A34.out).mono ?_); (case side1 => exact zS (kO HR0_1.out (zV HB.out GE384.out GE401.out))); (case side2 => exact HC0_1.out); rintro e w78 ⟨v429, rfl, ho0, hb⟩; refine ⟨_, rfl, ?_⟩; have HO430 := zA (kI (kF (kF (kF (kF (kF (kF (kF (kF ho0 (kH (zP HO389.out))) (kH (zP HO392.out))) (kH (zP HO395.out))) (kH (zP HO400.out))) (kH (zP HO404.out))) (kH (zP HO407.out))) (kH (zP HO413.out))) (kH (zP HO417.out))) (kP (zV HB.out GE384.out GE401.out))); replace HO389 := zA (kE (zP HO389.out) (kC ho0) hb); replace HO392 := zA (kE (zP HO392.out) (kC ho0) hb); replace HO395 := zA (kE (zP HO395.out) (kC ho0) hb); replace HO400 := zA (kE (zP HO400.out) (kC ho0) hb); replace HO404 := zA (kE (zP HO404.out) (kC ho0) hb); replace HO407 := zA (kE (zP HO407.out) (kC ho0) hb); replace HO413 := zA (kE (zP HO413.out) (kC ho0) hb); replace HO417 := zA (kE (zP HO417.out) (kC ho0) hb); replace BK384 := zA (zB1 BK384.out hb); replace BK401 := zA (zB1 BK401.out hb); replace HB := zA (kQ (zV HB.out GE384.out GE401.out) hb); (try clear hb); (try clear ho0)) | (refine zO (some 96) Tryd.func8 #[.slice A1 l1.length c1] ?_; (with_reducible refine (laws_toInt64S.calls k _ _ l1 t431 _ ?side1 ?side2 A35.out).mono ?_); (case side1 => exact zS (kO HR1.out HB.out)); (case side2 => exact HC1.out); rintro e w79 ⟨v432, rfl, ho0, hb⟩; refine ⟨_, rfl, ?_⟩; have HO433 := zA (kI (kF (kF (kF (kF (kF (kF (kF (kF (kF ho0 (kH (zP HO389.out))) (kH (zP HO392.out))) (kH (zP HO395.out))) (kH (zP HO400.out))) (kH (zP HO404.out))) (kH (zP HO407.out))) (kH (zP HO413.out))) (kH (zP HO417.out))) (kH (zP HO430.out))) (kP (zV HB.out GE384.out GE401.out))); replace HO389 := zA (kE (zP HO389.out) (kC ho0) hb); replace HO392 := zA (kE (zP HO392.out) (kC ho0) hb); replace HO395 := zA (kE (zP HO395.out) (kC ho0) hb); replace HO400 := zA (kE (zP HO400.out) (kC ho0) hb); replace HO404 := zA (kE (zP HO404.out) (kC ho0) hb); replace HO407 := zA (kE (zP HO407.out) (kC ho0) hb); replace HO413 := zA (kE (zP HO413.out) (kC ho0) hb); replace HO417 := zA (kE (zP HO417.out) (kC ho0) hb); replace HO430 := zA (kE (zP HO430.out) (kC ho0) hb); replace BK384 := zA (zB1 BK384.out hb); replace BK401 := zA (zB1 BK401.out hb); replace HB := zA (kQ (zV HB.out GE384.out GE401.out) hb); (try clear hb); (try clear ho0); obtain ⟨Ao80, co80, eo80⟩ := kM HO430.out; subst eo80; obtain ⟨Ao81, co81, eo81⟩ := kM HO433.out; subst eo81) | (refine zO (some 97) Tryd.func9 #[.agg #[.int .i64 t427, .slice Ao80 t428.length co80], .slice Ao81 t431.length co81] ?_; (with_reducible refine (impl_LongestChain.calls k t427 _ _ t428 (fun k_ => some k_ = (.slice Ao81 t431.length co81 : Value).ownBlock) _ _ t431 t434 t437 _ ?side1 ?side2 ?side3 ?side4 A36.out).mono ?_); (case side1 => exact zS (kB HO430.out).2.2); (case side2 => exact (kB HO430.out).2.1); (case side3 => exact jL (jK rfl (kD (kD (HO433.out) BK384.out (by decide)) BK401.out (by decide)))); (case side4 => exact TabW.below HT.out (zV HB.out GE384.out GE401.out)); rintro e w82 ⟨v435, rfl, ho0, hb⟩; refine ⟨_, rfl, ?_⟩; have HO436 := zA (kI (kF (kF (kF (kF (kF (kF (kF (kF (kF (kF (kA (ok' := fun k_ => True) ho0 (fun _ hk_ => trivial)) (kH (zP HO389.out))) (kH (zP HO392.out))) (kH (zP HO395.out))) (kH (zP HO400.out))) (kH (zP HO404.out))) (kH (zP HO407.out))) (kH (zP HO413.out))) (kH (zP HO417.out))) (kH (zP HO430.out))) (kH (zP HO433.out))) (kP (zV HB.out GE384.out GE401.out))); replace HO389 := zA (kE (zP HO389.out) (kC ho0) hb); replace HO392 := zA (kE (zP HO392.out) (kC ho0) hb); replace HO395 := zA (kE (zP HO395.out) (kC ho0) hb); replace HO400 := zA (kE (zP HO400.out) (kC ho0) hb); replace HO404 := zA (kE (zP HO404.out) (kC ho0) hb); replace HO407 := zA (kE (zP HO407.out) (kC ho0) hb); replace HO413 := zA (kE (zP HO413.out) (kC ho0) hb); replace HO417 := zA (kE (zP HO417.out) (kC ho0) hb); replace HO430 := zA (kE (zP HO430.out) (kC ho0) hb); replace HO433 := zA (kE (zP HO433.out) (kC ho0) hb); replace BK384 := zA (zB1 BK384.out hb); replace BK401 := zA (zB1 BK401.out hb); replace HB := zA (kQ (zV HB.out GE384.out GE401.out) hb); (try clear hb); (try clear ho0); obtain ⟨Ao83, co83, eo83⟩ := kM HO436.out; subst eo83) | (refine zO (some 102) Tryd.func10 #[.slice Ao83 t434.length co83, .slice Ao63 t393.length co63] ?_; (with_reducible refine (laws_eqInt64S_BFnExactLongestChain.calls k _ _ t434 _ _ t393 true _ ?side1 ?side2 ?side3 ?side4 A37.out).mono ?_); (case side1 => exact zS (kB HO436.out).2.2); (case side2 => exact (kB HO436.out).2.1); (case side3 => exact zS (kB HO395.out).2.2); (case side4 => exact (kB HO395.out).2.1); rintro e w84 ⟨rfl, hb⟩; refine ⟨_, rfl, ?_⟩; replace HO389 := zA (kL (zP HO389.out) hb); replace HO392 := zA (kL (zP HO392.out) hb); replace HO395 := zA (kL (zP HO395.out) hb); replace HO400 := zA (kL (zP HO400.out) hb); replace HO404 := zA (kL (zP HO404.out) hb); replace HO407 := zA (kL (zP HO407.out) hb); replace HO413 := zA (kL (zP HO413.out) hb); replace HO417 := zA (kL (zP HO417.out) hb); replace HO430 := zA (kL (zP HO430.out) hb); replace HO433 := zA (kL (zP HO433.out) hb); replace HO436 := zA (kL (zP HO436.out) hb); replace BK384 := zA (zB1 BK384.out hb); replace BK401 := zA (zB1 BK401.out hb); replace HB := zA (kQ (zV HB.out GE384.out GE401.out) hb); (try clear hb)) | ((with_reducible refine kR (f := 14) rfl ?_); refine goesL_ (some 111) rfl rfl Tryd.func14 (by kernel_rfl) rfl #[.slice Ao62 t425.length co62, .int .i64 1] rfl (by (try simp only [List.map_toArray, List.map_cons, List.map_nil]); first | done | (rw [show t425.length = t405.length from (kB HO407.out).1.symm] <;> rfl) | rfl | (simp only [List.length_drop, List.length_take]; rfl)) ?_; (with_reducible refine (laws_heldInt64S.calls k _ _ t425 1 t439 _ ?side1 ?side2 A40.out).mono ?_); (case side1 => exact zS (kB HO407.out).2.2); (case side2 => rw [show t425.length = t405.length from (kB HO407.out).1.symm]; exact (kB HO407.out).2.1); rintro e w' ⟨rfl, ⟨nd, rfl⟩⟩; refine ⟨_, rfl, ?_⟩))
          go_ret
          exact ⟨zr, zV HB.out GE384.out GE401.out⟩
         rw [if_neg c42] at H
         exact absurd H (by simp)
        rw [if_neg c39] at H
        exact absurd H (by simp)
       replace c38 := Bool.eq_false_iff.mpr c38
       subst c38
       rw [if_neg (show ¬ (false = true) by decide)] at H
       exact absurd H (by simp)
      rw [if_neg c33] at H
      exact absurd H (by simp)
     replace c29 := Bool.eq_false_iff.mpr c29
     subst c29
     rw [if_neg (show ¬ (false = true) by decide)] at H
     exact absurd H (by simp)
    replace c24 := Bool.eq_false_iff.mpr c24
    subst c24
    rw [if_neg (show ¬ (false = true) by decide)] at H
    exact absurd H (by simp)
   replace c21 := Bool.eq_false_iff.mpr c21
   subst c21
   rw [if_neg (show ¬ (false = true) by decide)] at H
   exact absurd H (by simp)
  rw [if_neg c18] at H
  exact absurd H (by simp)
 replace c17 := Bool.eq_false_iff.mpr c17
 subst c17
 rw [if_neg (show ¬ (false = true) by decide)] at H
 exact absurd H (by simp)

end Go.Proofs.YtpenijicdldipaaDoor.PAll
