-- Printed by a program of the session (wip/tools/pgen.py) out of the translation. Not trusted: Lean checks it.
import Derived.Test.YthgapkbkhoeleaaDoorPAllx0
namespace Go.Proofs.YthgapkbkhoeleaaDoor.PAll
open Go.RowKit Go.Proofs.YthgapkbkhoeleaaDoor.T Go.Proofs.YthgapkbkhoeleaaDoorW.PrintWords Go.Proofs.YthgapkbkhoeleaaDoorW.PrintLast Go.Proofs.YthgapkbkhoeleaaDoorW.PrintMore
attribute [local go_sem] max2_int min2_int max_two min_two max_three min_three max_four min_four   -- for this text's walks alone
set_option linter.unusedVariables false
set_option linter.unusedSimpArgs false

/-! ### laws_szInt64S: function 73 -/
def laws_szInt64S.f (l0 : List Int) (a1 : Int) : Option (Int) := if (wrap64 (a1 - (l0.length : Int))) < 0 then (some (-1)) else (some (wrap64 (a1 - (l0.length : Int))))
set_option maxHeartbeats 8000000 in
set_option maxRecDepth 100000 in
theorem laws_szInt64S.calls (A0 : Option Addr) (c0 : Nat) (l0 : List Int) (a1 : Int) (r : Int) (w : World) (hr0 : Kd.C (Kd.int .i64) w A0 l0.length l0) (hc0 : l0.length ≤ c0) (h : laws_szInt64S.f l0 a1 = some r) :
  Calls Tryd.prog 73 #[.slice A0 l0.length c0, .int .i64 a1] w fun e w' => e = .returned (.int .i64 r) ∧ Drawn0 w w' := by
 have HR0 := zA hr0
 have HC0 := zA hc0
 clear hr0 hc0
 have H := h
 unfold laws_szInt64S.f at H
 clear h
 by_cases c3 : (wrap64 (a1 - (l0.length : Int))) < 0
 ·rw [if_pos c3] at H
  have c3b0 : decide ((wrap64 (a1 - (l0.length : Int))) < 0) = true := decide_eq_true c3
  clear c3
  obtain rfl := Option.some.inj H
  go_enter Tryd.func73, Tryd.ntmps73
  go_wp2
  go_ret
  exact ⟨zs, by repeat (first | exact Drawn0.refl _ | apply Drawn0.step)⟩
 rw [if_neg c3] at H
 have c3b0 : decide ((wrap64 (a1 - (l0.length : Int))) < 0) = false := decide_eq_false c3
 clear c3
 obtain rfl := Option.some.inj H
 go_enter Tryd.func73, Tryd.ntmps73
 go_wp2
 go_ret
 exact ⟨zs, by repeat (first | exact Drawn0.refl _ | apply Drawn0.step)⟩

/-! ### laws_szAlphabet: function 15 -/
def laws_szAlphabet.f (a0_0 : Int) (l0_1 : List Int) (a1 : Int) : Option (Int) := (laws_szInt64S.f l0_1 a1).bind fun t1321 => (if t1321 < 0 then (some (-1)) else (some t1321))
set_option maxHeartbeats 8000000 in
set_option maxRecDepth 100000 in
theorem laws_szAlphabet.calls (a0_0 : Int) (A0_1 : Option Addr) (c0_1 : Nat) (l0_1 : List Int) (a1 : Int) (r : Int) (w : World) (hr0_1 : Kd.C (Kd.int .i64) w A0_1 l0_1.length l0_1) (hc0_1 : l0_1.length ≤ c0_1) (h : laws_szAlphabet.f a0_0 l0_1 a1 = some r) :
  Calls Tryd.prog 15 #[.agg #[.int .i64 a0_0, .slice A0_1 l0_1.length c0_1], .int .i64 a1] w fun e w' => e = .returned (.int .i64 r) ∧ Below w.heap.size w w' := by
 have hu24 := Tryd.underlying24
 have HR0_1 := zA hr0_1
 have HC0_1 := zA hc0_1
 clear hr0_1 hc0_1
 have HB := zA (kW w.heap.size w)
 have H := h
 unfold laws_szAlphabet.f at H
 clear h
 obtain ⟨t1321, A3, H⟩ := zb H
 try dsimp only at H
 by_cases c4 : t1321 < 0
 ·rw [if_pos c4] at H
  have c4b0 : decide (t1321 < 0) = true := decide_eq_true c4
  clear c4
  obtain rfl := Option.some.inj H
  go_enter Tryd.func15, Tryd.ntmps15
  go_wp2_with (first | (refine zBE 2 #[.int .i64 a0_0, .slice A0_1 l0_1.length c0_1] 24 ?_; intro gb1320 hg w5 hbox hb; have BK1320 := zA (hbox); have GW1320 := zA (zBH hg HB.out); have GE1320 := zA (zBH hg HB.out); replace HB := zA (kQ (zQ HB.out) hb); clear hb hbox hg; obtain ⟨hcz6_0, hcz6_1, hfz6_0, hfz6_1⟩ := zB3 BK1320.out) | (refine zO (some 8) Tryd.func73 #[.slice A0_1 l0_1.length c0_1, .int .i64 a1] ?_; (with_reducible refine (laws_szInt64S.calls _ _ l0_1 a1 t1321 _ ?side1 ?side2 A3.out).mono ?_); (case side1 => exact zS (kO HR0_1.out HB.out)); (case side2 => exact HC0_1.out); rintro e w' ⟨rfl, ⟨nd, rfl⟩⟩; refine ⟨_, rfl, ?_⟩))
  go_ret
  exact ⟨zr, zT HB.out GE1320.out⟩
 rw [if_neg c4] at H
 have c4b0 : decide (t1321 < 0) = false := decide_eq_false c4
 clear c4
 obtain rfl := Option.some.inj H
 go_enter Tryd.func15, Tryd.ntmps15
 go_wp2_with (first | (refine zBE 2 #[.int .i64 a0_0, .slice A0_1 l0_1.length c0_1] 24 ?_; intro gb1320 hg w7 hbox hb; have BK1320 := zA (hbox); have GW1320 := zA (zBH hg HB.out); have GE1320 := zA (zBH hg HB.out); replace HB := zA (kQ (zQ HB.out) hb); clear hb hbox hg; obtain ⟨hcz8_0, hcz8_1, hfz8_0, hfz8_1⟩ := zB3 BK1320.out) | (refine zO (some 8) Tryd.func73 #[.slice A0_1 l0_1.length c0_1, .int .i64 a1] ?_; (with_reducible refine (laws_szInt64S.calls _ _ l0_1 a1 t1321 _ ?side1 ?side2 A3.out).mono ?_); (case side1 => exact zS (kO HR0_1.out HB.out)); (case side2 => exact HC0_1.out); rintro e w' ⟨rfl, ⟨nd, rfl⟩⟩; refine ⟨_, rfl, ?_⟩))
 go_ret
 exact ⟨zr, zT HB.out GE1320.out⟩

/-! ### laws_toInt64S: function 18 -/
def laws_toInt64S.l0 : Nat → List Int → List Int → Int → Option (List Int)
 | 0, _, _, _ => none
 | k + 1, x0, x3, x4 => if x4 < (x0.length : Int) then (if 0 ≤ x4 then (if x4 < (x3.length : Int) then (laws_toInt64S.l0 k x0 (x3.set (x4 : Int).toNat (rd x0 x4)) (wrap64 (x4 + 1))) else (none)) else (none)) else (some x3)
def laws_toInt64S.f (k : Nat) (l0 : List Int) : Option (List Int) := if 0 ≤ (l0.length : Int) then (if ((l0.length : Int) : Int).toNat ≤ 35184372088832 then (laws_toInt64S.l0 k l0 (List.replicate ((l0.length : Int) : Int).toNat 0) 0) else (none)) else (none)

set_option maxHeartbeats 8000000 in
set_option maxRecDepth 100000 in
theorem laws_toInt64S.calls (k : Nat) (A0 : Option Addr) (c0 : Nat) (l0 : List Int) (r : List Int) (w : World) (hr0 : Kd.C (Kd.int .i64) w A0 l0.length l0) (hc0 : l0.length ≤ c0) (h : laws_toInt64S.f k l0 = some r) :
  Calls Tryd.prog 18 #[.slice A0 l0.length c0] w fun e w' => ∃ v0_ : Value, e = .returned (v0_) ∧ Kd.R (Kd.int .i64) 2 w' w.heap.size (fun _ => True) v0_ r ∧ Below w.heap.size w w' := by
 have HR0 := zA hr0
 have HC0 := zA hc0
 clear hr0 hc0
 have HB := zA (kW w.heap.size w)
 have H := h
 unfold laws_toInt64S.f at H
 clear h
 by_cases c2 : 0 ≤ (l0.length : Int)
 ·rw [if_pos c2] at H
  have c2b0 := eq_true c2
  have c2b1 : decide (0 ≤ (l0.length : Int)) = true := decide_eq_true c2
  clear c2
  by_cases c3 : ((l0.length : Int) : Int).toNat ≤ 35184372088832
  ·rw [if_pos c3] at H
   have c3b0 := eq_true c3
   have c3b1 : decide (((l0.length : Int) : Int).toNat ≤ 35184372088832) = true := decide_eq_true c3
   clear c3
   obtain ⟨y1358, hy1358⟩ : ∃ y_ : List Int, y_ = (List.replicate ((l0.length : Int) : Int).toNat 0) := ⟨_, rfl⟩
   replace H : (laws_toInt64S.l0 k l0 y1358 0) = some r := zy hy1358 H
   have Ny1358 := zA hy1358
   clear hy1358
   have H' := zA H
   clear H
   go_enter Tryd.func18, Tryd.ntmps18
   go_wp2_with (first | ((with_reducible refine kS (N := 7) rfl ?_); refine Kd.R_make (Kd.int .i64) _ 2 rfl (N := 7) rfl 22 _ _ rfl (l0.length : Int) rfl rfl Tryd.underlying22 (.int .i64 0) 8 info2 rfl (by decide) (by omega) 0 (ok := fun _ => True) (okp := fun _ => True) rfl (fun _ hk => hk) trivial (zd) (Nat.le_trans (Nat.mul_le_mul_right _ (zd : (l0.length : Int).toNat ≤ 35184372088832)) (by omega)) (kW _ _) (Nat.le_refl _) ?_; intro v1359 w4 ho5 hb hg_ hnew_; clear hg_ hnew_; (first | rw [← Ny1358.out] at ho5 | (simp only [Int.reduceToNat] at ho5; rw [← Ny1358.out] at ho5)); have HO1360 := zA (kI ho5 (kP (zQ HB.out))); replace HB := zA (kQ (zQ HB.out) hb); clear hb ho5))
   go_loopg [4] k (fun kq v4 w' => ∃ (x3_1 : List Int) (x4_1 : Int), v4 = .int .i64 x4_1 ∧ Aside0 (laws_toInt64S.l0 kq l0 x3_1 x4_1 = some r) ∧ Aside0 (kq ≤ k) ∧ Aside0 (Kd.R (Kd.int .i64) 2 w' w.heap.size (fun _ => True) v1359 x3_1) ∧ Aside0 (Below w.heap.size w w'))
   case atStart => exact ⟨(y1358), (0), zs, H', ⟨Nat.le_refl _⟩, ⟨zP HO1360.out⟩, ⟨zQ HB.out⟩⟩
   case round =>
    clear H'
    try clear c1
    try clear c2
    try clear c3
    obtain ⟨x3_1, x4_1, rfl, HA, HK1, HO_3, HB⟩ := hrel
    cases gk with
    | zero => exact absurd HA.out (by simp [laws_toInt64S.l0])
    | succ k1 =>
     have H := HA.out
     clear HA
     simp only [laws_toInt64S.l0] at H
     by_cases c6 : x4_1 < (l0.length : Int)
     ·rw [if_pos c6] at H
      have c6b0 : decide (x4_1 < (l0.length : Int)) = true := decide_eq_true c6
      clear c6
      by_cases c7 : 0 ≤ x4_1
      ·rw [if_pos c7] at H
       have c7b0 : decide (0 ≤ x4_1) = true := decide_eq_true c7
       clear c7
       by_cases c8 : x4_1 < (x3_1.length : Int)
       ·rw [if_pos c8] at H
        have c8b0 : decide (x4_1 < (x3_1.length : Int)) = true := decide_eq_true c8
        clear c8
        obtain ⟨y1362, hy1362⟩ : ∃ y_ : List Int, y_ = (x3_1.set (x4_1 : Int).toNat (rd l0 x4_1)) := ⟨_, rfl⟩
        replace H : (laws_toInt64S.l0 k1 l0 y1362 (wrap64 (x4_1 + 1))) = some r := zy hy1362 H
        have Ny1362 := zA hy1362
        clear hy1362
        have H' := zA H
        clear H
        have p1361 : 0 ≤ (x4_1 : Int) := zd
        have q1361 : x4_1 < (l0.length : Int) := zd
        obtain ⟨ad1361, e1361, hx1361_0⟩ := Kd.at_int HR0.out x4_1 p1361 q1361
        cases e1361
        replace hx1361_0 := (HB.out.cell (jG w _ hx1361_0)).trans hx1361_0
        replace p1361 := eq_true p1361
        replace q1361 := eq_true q1361
        have p9 : 0 ≤ (x4_1 : Int) := zd
        have q9 : (x4_1 : Int) < ((x3_1.length : Int) : Int) := zd
        obtain ⟨go9, co9, eo9, gb9, gl9, cl9, HG9⟩ := Kd.R_form HO_3.out (by omega)
        (first | cases eo9 | (injection eo9 with ea_ en_ ec_; (first | subst ea_ | (injection ea_ with ea_; subst ea_)); subst ec_; clear en_))
        have GB9 := zA gb9
        have GG9 := zA HG9
        clear gb9 gl9 HG9
        obtain ⟨hx9_0, hf9_0⟩ := Kd.R_celln 0 HO_3.out (x4_1 : Int) p9 q9
        replace p9 := eq_true p9
        replace q9 := eq_true q9
        have HP10 := Kd.R_putg HO_3.out (x4_1 : Int) (rd l0 x4_1)
        go_wp2_with (first | ((with_reducible refine gate_store (t := 2) (p := 20) rfl ?_); refine store_event (t := 2) (p := 20) (v := ?vo_w11) (w1 := (wr.setCell ⟨go9, (x4_1 : Int).toNat, none⟩ (.int .i64 (rd l0 x4_1)))) ?hg ?ho ?hn ?hr ?_; (case ho => rfl); (case hg => rfl); (case hn => rfl); (case hr => first | (go_simp; done) | (go_simp; rfl)); intro w11 hw; have hg : wr.grownBy w11 (some go9) := (by rw [hw]; exact HP10.2); have hp_ : Kd.R (Kd.int .i64) 2 w11 w.heap.size (fun _ => True) (.slice (some ⟨go9, 0, none⟩) x3_1.length co9) y1362 := (by rw [hw, Ny1362.out]; exact HP10.1); clear HP10; replace HO_3 := zA (hp_); replace HB := zA ((by rw [hw]; exact zE (HB.out) GB9.out : Below w.heap.size w w11)); clear hg hw hp_))
        go_roundg k1
        case measure => have := HK1.out; omega
        case rel => exact ⟨(y1362), (wrap64 (x4_1 + 1)), zs, H', ⟨by have := HK1.out; omega⟩, ⟨zP HO_3.out⟩, ⟨zQ HB.out⟩⟩
       rw [if_neg c8] at H
       exact absurd H (by simp)
      rw [if_neg c7] at H
      exact absurd H (by simp)
     rw [if_neg c6] at H
     have c6b0 : decide (x4_1 < (l0.length : Int)) = false := decide_eq_false c6
     clear c6
     obtain rfl := Option.some.inj H
     go_wp2
     go_ret
     exact ⟨_, zr, zP HO_3.out, zQ HB.out⟩
  rw [if_neg c3] at H
  exact absurd H (by simp)
 rw [if_neg c2] at H
 exact absurd H (by simp)

/-! ### laws_toAlphabet: function 17 -/
def laws_toAlphabet.f (k : Nat) (a0_0 : Int) (l0_1 : List Int) : Option (Int × List Int) := (laws_toInt64S.f k l0_1).bind fun t1366 => (some (a0_0, t1366))

set_option maxHeartbeats 8000000 in
set_option maxRecDepth 100000 in
theorem laws_toAlphabet.calls (k : Nat) (a0_0 : Int) (A0_1 : Option Addr) (c0_1 : Nat) (l0_1 : List Int) (r1 : Int) (r2 : List Int) (w : World) (hr0_1 : Kd.C (Kd.int .i64) w A0_1 l0_1.length l0_1) (hc0_1 : l0_1.length ≤ c0_1) (h : laws_toAlphabet.f k a0_0 l0_1 = some (r1, r2)) :
  Calls Tryd.prog 17 #[.agg #[.int .i64 a0_0, .slice A0_1 l0_1.length c0_1]] w fun e w' => ∃ v1_ : Value, e = .returned (.agg #[.int .i64 r1, v1_]) ∧ Kd.R (Kd.int .i64) 2 w' w.heap.size (fun _ => True) v1_ r2 ∧ Below w.heap.size w w' := by
 have hu24 := Tryd.underlying24
 have hu29 := Tryd.underlying29
 have HR0_1 := zA hr0_1
 have HC0_1 := zA hc0_1
 clear hr0_1 hc0_1
 have HB := zA (kW w.heap.size w)
 have H := h
 unfold laws_toAlphabet.f at H
 clear h
 obtain ⟨t1366, A2, H⟩ := zb H
 try dsimp only at H
 simp only [Option.some.injEq, Prod.mk.injEq] at H
 obtain ⟨rfl, rfl⟩ := H
 go_enter Tryd.func17, Tryd.ntmps17
 go_wp2_with (first | (refine zBE 1 #[.int .i64 a0_0, .slice A0_1 l0_1.length c0_1] 24 ?_; intro gb1363 hg w3 hbox hb; have BK1363 := zA (hbox); have GW1363 := zA (zBH hg HB.out); have GE1363 := zA (zBH hg HB.out); replace HB := zA (kQ (zQ HB.out) hb); clear hb hbox hg) | (refine zBE 2 #[.int .i64 0, .slice none 0 0] 29 ?_; intro gb1364 hg w4 hbox hb; have BK1364 := zA (hbox); have GW1364 := zA (zB6 hg (kP (zT HB.out GE1363.out)) : w.heap.size ≤ gb1364); have GE1364 := zA (zB6 hg (kP (zT HB.out GE1363.out)) : w.heap.size ≤ gb1364); replace HB := zA (kQ (zT HB.out GE1363.out) hb); have NB1363_1364 := zA (zB4 hg BK1363.out : gb1363 ≠ gb1364); have NB1364_1363 := zA (zB5 hg BK1363.out : gb1364 ≠ gb1363); replace BK1363 := zA (zB1 BK1363.out hb); clear hb hbox hg) | (refine zBE 3 #[.int .i64 0, .slice none 0 0] 29 ?_; intro gb1365 hg w5 hbox hb; have BK1365 := zA (hbox); have GW1365 := zA (zB6 hg (kP (zV HB.out GE1363.out GE1364.out)) : w.heap.size ≤ gb1365); have GE1365 := zA (zB6 hg (kP (zV HB.out GE1363.out GE1364.out)) : w.heap.size ≤ gb1365); replace HB := zA (kQ (zV HB.out GE1363.out GE1364.out) hb); have NB1363_1365 := zA (zB4 hg BK1363.out : gb1363 ≠ gb1365); have NB1365_1363 := zA (zB5 hg BK1363.out : gb1365 ≠ gb1363); replace BK1363 := zA (zB1 BK1363.out hb); have NB1364_1365 := zA (zB4 hg BK1364.out : gb1364 ≠ gb1365); have NB1365_1364 := zA (zB5 hg BK1364.out : gb1365 ≠ gb1364); replace BK1364 := zA (zB1 BK1364.out hb); clear hb hbox hg; have hnb6 := NB1363_1364.out; have hnc6 := NB1364_1363.out; have hnb7 := NB1363_1365.out; have hnc7 := NB1365_1363.out; obtain ⟨hcz8_0, hcz8_1, hfz8_0, hfz8_1⟩ := zB3 BK1363.out; have hnb9 := NB1365_1364.out; have hnc9 := NB1364_1365.out; obtain ⟨hcz10_0, hcz10_1, hfz10_0, hfz10_1⟩ := zB3 BK1365.out) | (refine zO (some 9) Tryd.func18 #[.slice A0_1 l0_1.length c0_1] ?_; (with_reducible refine (laws_toInt64S.calls k _ _ l0_1 t1366 _ ?side1 ?side2 A2.out).mono ?_); (case side1 => exact kO HR0_1.out (zW HB.out GE1363.out GE1364.out GE1365.out)); (case side2 => exact HC0_1.out); rintro e w11 ⟨v1367, rfl, ho0, hb⟩; refine ⟨_, rfl, ?_⟩; have HO1368 := zA (kI ho0 (kP (zW HB.out GE1363.out GE1364.out GE1365.out))); replace BK1363 := zA (blk_below (g := gb1363) (o := .cells #[.int .i64 a0_0, .slice A0_1 l0_1.length c0_1] 24 (0, 0)) (zBF BK1363.out NB1363_1365.out) hb); replace BK1364 := zA (blk_below (g := gb1364) (o := .cells #[.int .i64 0, .slice none 0 0] 29 (0, 0)) (zBF BK1364.out NB1364_1365.out) hb); replace BK1365 := zA (blk_below (g := gb1365) (o := .cells #[.int .i64 a0_0, .slice none 0 0] 29 (0, 0)) (by (with_reducible repeat (first | refine zJ ?_ _ | refine zK ?_ | refine zI ?_ _)); refine blk_put (cs := #[.int .i64 0, .slice none 0 0]) ?_ 0 _ rfl; (with_reducible repeat (first | refine zJ ?_ _ | refine zK ?_ | refine zI ?_ _)); exact BK1365.out) hb); replace HB := zA (kQ (zW HB.out GE1363.out GE1364.out GE1365.out) hb); (try clear hb); (try clear ho0); obtain ⟨Ao12, co12, eo12⟩ := kM HO1368.out; subst eo12; obtain ⟨hcz13_0, hcz13_1, hfz13_0, hfz13_1⟩ := zB3 BK1365.out; obtain ⟨hcz14_0, hcz14_1, hfz14_0, hfz14_1⟩ := zB3 BK1364.out))
 refine bodyPost_ret (results_cell_row rfl _ _ gb1364 29 #[.int .i64 a0_0, .slice Ao12 t1366.length co12] (0, 0) _ rfl (by (with_reducible repeat (first | refine zJ ?_ _ | refine zK ?_ | refine zI ?_ _)); refine blk_put (cs := #[.int .i64 a0_0, .slice none 0 0]) ?_ 1 _ rfl; (with_reducible repeat (first | refine zJ ?_ _ | refine zK ?_ | refine zI ?_ _)); refine blk_put (cs := #[.int .i64 0, .slice none 0 0]) ?_ 0 _ rfl; (with_reducible repeat (first | refine zJ ?_ _ | refine zK ?_ | refine zI ?_ _)); refine blk_far ?_ NB1364_1365.out _; (with_reducible repeat (first | refine zJ ?_ _ | refine zK ?_ | refine zI ?_ _)); exact BK1364.out) Tryd.underlying29 rfl (by kernel_rfl)) rfl ?_
 exact ⟨_, zr, by (with_reducible repeat (first | apply zF | apply zG | apply zH)); exact kA (kY (p := ⟨gb1364, 1, none⟩) (kY (p := ⟨gb1364, 0, none⟩) (kY (p := ⟨gb1365, 1, none⟩) (kD (kD HO1368.out BK1365.out (by decide)) BK1364.out (by decide)) (fun _ hk => hk.1.2) (.slice Ao12 t1366.length co12)) (fun _ hk => hk.2) (.int .i64 a0_0)) (fun _ hk => hk.2) (.slice Ao12 t1366.length co12)) (fun _ hk => trivial), zW HB.out GE1363.out GE1364.out GE1365.out⟩

/-! ### laws_eqInt64S: function 22 -/
def laws_eqInt64S.l0 : Nat → List Int → List Int → Int → Option (Bool)
 | 0, _, _, _ => none
 | k + 1, x0, x1, x5 => if x5 < (x0.length : Int) then (if 0 ≤ x5 then (if x5 < (x1.length : Int) then (if (rd x0 x5) = (rd x1 x5) then (laws_eqInt64S.l0 k x0 x1 (wrap64 (x5 + 1))) else (some false)) else (none)) else (none)) else (some true)
def laws_eqInt64S.f (k : Nat) (l0 : List Int) (l1 : List Int) : Option (Bool) := if (l0.length : Int) = (l1.length : Int) then (laws_eqInt64S.l0 k l0 l1 0) else (some false)

set_option maxHeartbeats 8000000 in
set_option maxRecDepth 100000 in
theorem laws_eqInt64S.calls (k : Nat) (A0 : Option Addr) (c0 : Nat) (l0 : List Int) (A1 : Option Addr) (c1 : Nat) (l1 : List Int) (r : Bool) (w : World) (hr0 : Kd.C (Kd.int .i64) w A0 l0.length l0) (hc0 : l0.length ≤ c0) (hr1 : Kd.C (Kd.int .i64) w A1 l1.length l1) (hc1 : l1.length ≤ c1) (h : laws_eqInt64S.f k l0 l1 = some r) :
  Calls Tryd.prog 22 #[.slice A0 l0.length c0, .slice A1 l1.length c1] w fun e w' => e = .returned (.bool r) ∧ Drawn0 w w' := by
 have HR0 := zA hr0
 have HC0 := zA hc0
 clear hr0 hc0
 have HR1 := zA hr1
 have HC1 := zA hc1
 clear hr1 hc1
 have H := h
 unfold laws_eqInt64S.f at H
 clear h
 by_cases c3 : (l0.length : Int) = (l1.length : Int)
 ·rw [if_pos c3] at H
  obtain ⟨c3b0, c3b1⟩ := zT1 c3
  have c3b2 : (l0.length == l1.length) = true := by first | simpa using c3 | (simp at c3 ⊢; omega)
  clear c3
  have H' := zA H
  clear H
  go_enter Tryd.func22, Tryd.ntmps22
  go_wp2
  repeat (go_quiet (fail); try go_wp2)
  go_loopg [5] k (fun kq v5 w' => ∃ (x5_1 : Int), v5 = .int .i64 x5_1 ∧ Aside0 (laws_eqInt64S.l0 kq l0 l1 x5_1 = some r) ∧ Aside0 (kq ≤ k) ∧ Drawn0 w w')
  case atStart => exact ⟨(0), zs, H', ⟨Nat.le_refl _⟩, by repeat (first | exact Drawn0.refl _ | apply Drawn0.step)⟩
  case round =>
   clear H'
   try clear c1
   try clear c2
   try clear c3
   obtain ⟨x5_1, rfl, HA, HK1, ⟨m1, rfl⟩⟩ := hrel
   cases gk with
   | zero => exact absurd HA.out (by simp [laws_eqInt64S.l0])
   | succ k1 =>
    have H := HA.out
    clear HA
    simp only [laws_eqInt64S.l0] at H
    by_cases c4 : x5_1 < (l0.length : Int)
    ·rw [if_pos c4] at H
     have c4b0 : decide (x5_1 < (l0.length : Int)) = true := decide_eq_true c4
     clear c4
     by_cases c5 : 0 ≤ x5_1
     ·rw [if_pos c5] at H
      have c5b0 : decide (0 ≤ x5_1) = true := decide_eq_true c5
      clear c5
      by_cases c6 : x5_1 < (l1.length : Int)
      ·rw [if_pos c6] at H
       have c6b0 : decide (x5_1 < (l1.length : Int)) = true := decide_eq_true c6
       clear c6
       by_cases c7 : (rd l0 x5_1) = (rd l1 x5_1)
       ·rw [if_pos c7] at H
        obtain ⟨c7b0, c7b1⟩ := zT1 c7
        clear c7
        have H' := zA H
        clear H
        have p1431 : 0 ≤ (x5_1 : Int) := zd
        have q1431 : x5_1 < (l0.length : Int) := zd
        obtain ⟨ad1431, e1431, hx1431_0⟩ := Kd.at_int HR0.out x5_1 p1431 q1431
        cases e1431
        replace p1431 := eq_true p1431
        replace q1431 := eq_true q1431
        have p1432 : 0 ≤ (x5_1 : Int) := zd
        have q1432 : x5_1 < (l1.length : Int) := zd
        obtain ⟨ad1432, e1432, hx1432_0⟩ := Kd.at_int HR1.out x5_1 p1432 q1432
        cases e1432
        replace p1432 := eq_true p1432
        replace q1432 := eq_true q1432
        go_wp2
        repeat (go_quiet (fail); try go_wp2)
        go_roundg k1
        case measure => have := HK1.out; omega
        case rel => exact ⟨(wrap64 (x5_1 + 1)), zs, H', ⟨by have := HK1.out; omega⟩, by repeat (first | exact Drawn0.refl _ | apply Drawn0.step)⟩
       rw [if_neg c7] at H
       obtain ⟨c7b0, c7b1⟩ := zT2 c7
       obtain rfl := Option.some.inj H
       have p1431 : 0 ≤ (x5_1 : Int) := zd
       have q1431 : x5_1 < (l0.length : Int) := zd
       obtain ⟨ad1431, e1431, hx1431_0⟩ := Kd.at_int HR0.out x5_1 p1431 q1431
       cases e1431
       replace p1431 := eq_true p1431
       replace q1431 := eq_true q1431
       have p1432 : 0 ≤ (x5_1 : Int) := zd
       have q1432 : x5_1 < (l1.length : Int) := zd
       obtain ⟨ad1432, e1432, hx1432_0⟩ := Kd.at_int HR1.out x5_1 p1432 q1432
       cases e1432
       replace p1432 := eq_true p1432
       replace q1432 := eq_true q1432
       go_wp2
       repeat (go_quiet (fail); try go_wp2)
       go_ret
       exact ⟨zs, by repeat (first | exact Drawn0.refl _ | apply Drawn0.step)⟩
      rw [if_neg c6] at H
      exact absurd H (by simp)
     rw [if_neg c5] at H
     exact absurd H (by simp)
    rw [if_neg c4] at H
    have c4b0 : decide (x5_1 < (l0.length : Int)) = false := decide_eq_false c4
    clear c4
    obtain rfl := Option.some.inj H
    go_wp2
    repeat (go_quiet (fail); try go_wp2)
    go_ret
    exact ⟨zs, by repeat (first | exact Drawn0.refl _ | apply Drawn0.step)⟩
 rw [if_neg c3] at H
 obtain ⟨c3b0, c3b1⟩ := zT2 c3
 have c3b2 : (l0.length == l1.length) = false := by first | simpa using c3 | (simp at c3 ⊢; omega)
 obtain rfl := Option.some.inj H
 go_enter Tryd.func22, Tryd.ntmps22
 go_wp2
 repeat (go_quiet (fail); try go_wp2)
 go_ret
 exact ⟨zs, by repeat (first | exact Drawn0.refl _ | apply Drawn0.step)⟩

/-! ### laws_eqInt64SS: function 20 -/
def laws_eqInt64SS.l0 : Nat → List (List Int) → List (List Int) → Int → Option (Bool)
 | 0, _, _, _ => none
 | k + 1, x0, x1, x5 => if x5 < (x0.length : Int) then (if 0 ≤ x5 then (if x5 < (x1.length : Int) then ((laws_eqInt64S.f k (rd_L1 x0 x5) (rd_L1 x1 x5)).bind fun t1435 => (if t1435 = true then (laws_eqInt64SS.l0 k x0 x1 (wrap64 (x5 + 1))) else (some false))) else (none)) else (none)) else (some true)
def laws_eqInt64SS.f (k : Nat) (l0 : List (List Int)) (l1 : List (List Int)) : Option (Bool) := if (l0.length : Int) = (l1.length : Int) then (laws_eqInt64SS.l0 k l0 l1 0) else (some false)

set_option maxHeartbeats 8000000 in
set_option maxRecDepth 100000 in
theorem laws_eqInt64SS.calls (k : Nat) (A0 : Option Addr) (c0 : Nat) (l0 : List (List Int)) (A1 : Option Addr) (c1 : Nat) (l1 : List (List Int)) (r : Bool) (w : World) (hr0 : Kd.C (Kd.slice 2 (Kd.int .i64)) w A0 l0.length l0) (hc0 : l0.length ≤ c0) (hr1 : Kd.C (Kd.slice 2 (Kd.int .i64)) w A1 l1.length l1) (hc1 : l1.length ≤ c1) (h : laws_eqInt64SS.f k l0 l1 = some r) :
  Calls Tryd.prog 20 #[.slice A0 l0.length c0, .slice A1 l1.length c1] w fun e w' => e = .returned (.bool r) ∧ Drawn0 w w' := by
 have HR0 := zA hr0
 have HC0 := zA hc0
 clear hr0 hc0
 have HR1 := zA hr1
 have HC1 := zA hc1
 clear hr1 hc1
 have H := h
 unfold laws_eqInt64SS.f at H
 clear h
 by_cases c3 : (l0.length : Int) = (l1.length : Int)
 ·rw [if_pos c3] at H
  obtain ⟨c3b0, c3b1⟩ := zT1 c3
  have c3b2 : (l0.length == l1.length) = true := by first | simpa using c3 | (simp at c3 ⊢; omega)
  clear c3
  have H' := zA H
  clear H
  go_enter Tryd.func20, Tryd.ntmps20
  go_wp2
  repeat (go_quiet (fail); try go_wp2)
  go_loopg [5] k (fun kq v5 w' => ∃ (x5_1 : Int), v5 = .int .i64 x5_1 ∧ Aside0 (laws_eqInt64SS.l0 kq l0 l1 x5_1 = some r) ∧ Aside0 (kq ≤ k) ∧ Drawn0 w w')
  case atStart => exact ⟨(0), zs, H', ⟨Nat.le_refl _⟩, by repeat (first | exact Drawn0.refl _ | apply Drawn0.step)⟩
  case round =>
   clear H'
   try clear c1
   try clear c2
   try clear c3
   obtain ⟨x5_1, rfl, HA, HK1, ⟨m1, rfl⟩⟩ := hrel
   cases gk with
   | zero => exact absurd HA.out (by simp [laws_eqInt64SS.l0])
   | succ k1 =>
    have H := HA.out
    clear HA
    simp only [laws_eqInt64SS.l0] at H
    by_cases c4 : x5_1 < (l0.length : Int)
    ·rw [if_pos c4] at H
     have c4b0 : decide (x5_1 < (l0.length : Int)) = true := decide_eq_true c4
     clear c4
     by_cases c5 : 0 ≤ x5_1
     ·rw [if_pos c5] at H
      have c5b0 : decide (0 ≤ x5_1) = true := decide_eq_true c5
      clear c5
      by_cases c6 : x5_1 < (l1.length : Int)
      ·rw [if_pos c6] at H
       have c6b0 : decide (x5_1 < (l1.length : Int)) = true := decide_eq_true c6
       clear c6
       obtain ⟨t1435, A7, H⟩ := zb H
       try dsimp only at H
       by_cases c8 : t1435 = true
       ·subst c8
        rw [if_pos rfl] at H
        have H' := zA H
        clear H
        have p1433 : 0 ≤ (x5_1 : Int) := zd
        have q1433 : x5_1 < (l0.length : Int) := zd
        obtain ⟨ad1433, A1433_0, c1433_0, e1433, hx1433_0, hl1433_0, hi1433_0⟩ := at_L1 HR0.out x5_1 p1433 q1433
        cases e1433
        have HR1433_0 := zA hi1433_0
        have HC1433_0 := zA hl1433_0
        clear hi1433_0 hl1433_0
        replace p1433 := eq_true p1433
        replace q1433 := eq_true q1433
        have p1434 : 0 ≤ (x5_1 : Int) := zd
        have q1434 : x5_1 < (l1.length : Int) := zd
        obtain ⟨ad1434, A1434_0, c1434_0, e1434, hx1434_0, hl1434_0, hi1434_0⟩ := at_L1 HR1.out x5_1 p1434 q1434
        cases e1434
        have HR1434_0 := zA hi1434_0
        have HC1434_0 := zA hl1434_0
        clear hi1434_0 hl1434_0
        replace p1434 := eq_true p1434
        replace q1434 := eq_true q1434
        go_wp2_with (first | (go_at_call 22; (with_reducible refine (laws_eqInt64S.calls k1 _ _ (rd_L1 l0 x5_1) _ _ (rd_L1 l1 x5_1) true _ ?side1 ?side2 ?side3 ?side4 A7.out).mono ?_); (case side1 => exact zS HR1433_0.out); (case side2 => exact HC1433_0.out); (case side3 => exact zS HR1434_0.out); (case side4 => exact HC1434_0.out); rintro e w' ⟨rfl, ⟨nd, rfl⟩⟩; (try exact zw)))
        repeat (go_quiet (first | (go_at_call 22; (with_reducible refine (laws_eqInt64S.calls k1 _ _ (rd_L1 l0 x5_1) _ _ (rd_L1 l1 x5_1) true _ ?side1 ?side2 ?side3 ?side4 A7.out).mono ?_); (case side1 => exact zS HR1433_0.out); (case side2 => exact HC1433_0.out); (case side3 => exact zS HR1434_0.out); (case side4 => exact HC1434_0.out); rintro e w' ⟨rfl, ⟨nd, rfl⟩⟩; (try exact zw))); try go_wp2_with (first | (go_at_call 22; (with_reducible refine (laws_eqInt64S.calls k1 _ _ (rd_L1 l0 x5_1) _ _ (rd_L1 l1 x5_1) true _ ?side1 ?side2 ?side3 ?side4 A7.out).mono ?_); (case side1 => exact zS HR1433_0.out); (case side2 => exact HC1433_0.out); (case side3 => exact zS HR1434_0.out); (case side4 => exact HC1434_0.out); rintro e w' ⟨rfl, ⟨nd, rfl⟩⟩; (try exact zw))))
        go_roundg k1
        case measure => have := HK1.out; omega
        case rel => exact ⟨(wrap64 (x5_1 + 1)), zs, H', ⟨by have := HK1.out; omega⟩, by repeat (first | exact Drawn0.refl _ | apply Drawn0.step)⟩
       replace c8 := Bool.eq_false_iff.mpr c8
       subst c8
       rw [if_neg (show ¬ (false = true) by decide)] at H
       obtain rfl := Option.some.inj H
       have p1433 : 0 ≤ (x5_1 : Int) := zd
       have q1433 : x5_1 < (l0.length : Int) := zd
       obtain ⟨ad1433, A1433_0, c1433_0, e1433, hx1433_0, hl1433_0, hi1433_0⟩ := at_L1 HR0.out x5_1 p1433 q1433
       cases e1433
       have HR1433_0 := zA hi1433_0
       have HC1433_0 := zA hl1433_0
       clear hi1433_0 hl1433_0
       replace p1433 := eq_true p1433
       replace q1433 := eq_true q1433
       have p1434 : 0 ≤ (x5_1 : Int) := zd
       have q1434 : x5_1 < (l1.length : Int) := zd
       obtain ⟨ad1434, A1434_0, c1434_0, e1434, hx1434_0, hl1434_0, hi1434_0⟩ := at_L1 HR1.out x5_1 p1434 q1434
       cases e1434
       have HR1434_0 := zA hi1434_0
       have HC1434_0 := zA hl1434_0
       clear hi1434_0 hl1434_0
       replace p1434 := eq_true p1434
       replace q1434 := eq_true q1434
       go_wp2_with (first | (go_at_call 22; (with_reducible refine (laws_eqInt64S.calls k1 _ _ (rd_L1 l0 x5_1) _ _ (rd_L1 l1 x5_1) false _ ?side1 ?side2 ?side3 ?side4 A7.out).mono ?_); (case side1 => exact zS HR1433_0.out); (case side2 => exact HC1433_0.out); (case side3 => exact zS HR1434_0.out); (case side4 => exact HC1434_0.out); rintro e w' ⟨rfl, ⟨nd, rfl⟩⟩; (try exact zw)))
       repeat (go_quiet (first | (go_at_call 22; (with_reducible refine (laws_eqInt64S.calls k1 _ _ (rd_L1 l0 x5_1) _ _ (rd_L1 l1 x5_1) false _ ?side1 ?side2 ?side3 ?side4 A7.out).mono ?_); (case side1 => exact zS HR1433_0.out); (case side2 => exact HC1433_0.out); (case side3 => exact zS HR1434_0.out); (case side4 => exact HC1434_0.out); rintro e w' ⟨rfl, ⟨nd, rfl⟩⟩; (try exact zw))); try go_wp2_with (first | (go_at_call 22; (with_reducible refine (laws_eqInt64S.calls k1 _ _ (rd_L1 l0 x5_1) _ _ (rd_L1 l1 x5_1) false _ ?side1 ?side2 ?side3 ?side4 A7.out).mono ?_); (case side1 => exact zS HR1433_0.out); (case side2 => exact HC1433_0.out); (case side3 => exact zS HR1434_0.out); (case side4 => exact HC1434_0.out); rintro e w' ⟨rfl, ⟨nd, rfl⟩⟩; (try exact zw))))
       go_ret
       exact ⟨zs, by repeat (first | exact Drawn0.refl _ | apply Drawn0.step)⟩
      rw [if_neg c6] at H
      exact absurd H (by simp)
     rw [if_neg c5] at H
     exact absurd H (by simp)
    rw [if_neg c4] at H
    have c4b0 : decide (x5_1 < (l0.length : Int)) = false := decide_eq_false c4
    clear c4
    obtain rfl := Option.some.inj H
    go_wp2
    repeat (go_quiet (fail); try go_wp2)
    go_ret
    exact ⟨zs, by repeat (first | exact Drawn0.refl _ | apply Drawn0.step)⟩
 rw [if_neg c3] at H
 obtain ⟨c3b0, c3b1⟩ := zT2 c3
 have c3b2 : (l0.length == l1.length) = false := by first | simpa using c3 | (simp at c3 ⊢; omega)
 obtain rfl := Option.some.inj H
 go_enter Tryd.func20, Tryd.ntmps20
 go_wp2
 repeat (go_quiet (fail); try go_wp2)
 go_ret
 exact ⟨zs, by repeat (first | exact Drawn0.refl _ | apply Drawn0.step)⟩

/-! ### laws_eqAlphabet: function 21 -/
def laws_eqAlphabet.f (k : Nat) (a0_0 : Int) (l0_1 : List Int) (a1_0 : Int) (l1_1 : List Int) : Option (Bool) := if a0_0 = a1_0 then ((laws_eqInt64S.f k l0_1 l1_1).bind fun t1438 => (if t1438 = true then (some true) else (some false))) else (some false)

set_option maxHeartbeats 8000000 in
set_option maxRecDepth 100000 in
theorem laws_eqAlphabet.calls (k : Nat) (a0_0 : Int) (A0_1 : Option Addr) (c0_1 : Nat) (l0_1 : List Int) (a1_0 : Int) (A1_1 : Option Addr) (c1_1 : Nat) (l1_1 : List Int) (r : Bool) (w : World) (hr0_1 : Kd.C (Kd.int .i64) w A0_1 l0_1.length l0_1) (hc0_1 : l0_1.length ≤ c0_1) (hr1_1 : Kd.C (Kd.int .i64) w A1_1 l1_1.length l1_1) (hc1_1 : l1_1.length ≤ c1_1) (h : laws_eqAlphabet.f k a0_0 l0_1 a1_0 l1_1 = some r) :
  Calls Tryd.prog 21 #[.agg #[.int .i64 a0_0, .slice A0_1 l0_1.length c0_1], .agg #[.int .i64 a1_0, .slice A1_1 l1_1.length c1_1]] w fun e w' => e = .returned (.bool r) ∧ Below w.heap.size w w' := by
 have hu29 := Tryd.underlying29
 have HR0_1 := zA hr0_1
 have HC0_1 := zA hc0_1
 clear hr0_1 hc0_1
 have HR1_1 := zA hr1_1
 have HC1_1 := zA hc1_1
 clear hr1_1 hc1_1
 have HB := zA (kW w.heap.size w)
 have H := h
 unfold laws_eqAlphabet.f at H
 clear h
 by_cases c3 : a0_0 = a1_0
 ·rw [if_pos c3] at H
  obtain ⟨c3b0, c3b1⟩ := zT1 c3
  clear c3
  obtain ⟨t1438, A4, H⟩ := zb H
  try dsimp only at H
  by_cases c5 : t1438 = true
  ·subst c5
   rw [if_pos rfl] at H
   obtain rfl := Option.some.inj H
   go_enter Tryd.func21, Tryd.ntmps21
   go_wp2_with (first | (refine zBE 2 #[.int .i64 a0_0, .slice A0_1 l0_1.length c0_1] 29 ?_; intro gb1436 hg w6 hbox hb; have BK1436 := zA (hbox); have GW1436 := zA (zBH hg HB.out); have GE1436 := zA (zBH hg HB.out); replace HB := zA (kQ (zQ HB.out) hb); clear hb hbox hg) | (refine zBE 3 #[.int .i64 a1_0, .slice A1_1 l1_1.length c1_1] 29 ?_; intro gb1437 hg w7 hbox hb; have BK1437 := zA (hbox); have GW1437 := zA (zB6 hg (kP (zT HB.out GE1436.out)) : w.heap.size ≤ gb1437); have GE1437 := zA (zB6 hg (kP (zT HB.out GE1436.out)) : w.heap.size ≤ gb1437); replace HB := zA (kQ (zT HB.out GE1436.out) hb); have NB1436_1437 := zA (zB4 hg BK1436.out : gb1436 ≠ gb1437); have NB1437_1436 := zA (zB5 hg BK1436.out : gb1437 ≠ gb1436); replace BK1436 := zA (zB1 BK1436.out hb); clear hb hbox hg; have hnb8 := NB1436_1437.out; have hnc8 := NB1437_1436.out; obtain ⟨hcz9_0, hcz9_1, hfz9_0, hfz9_1⟩ := zB3 BK1436.out; obtain ⟨hcz10_0, hcz10_1, hfz10_0, hfz10_1⟩ := zB3 BK1437.out) | (refine zO (some 14) Tryd.func22 #[.slice A0_1 l0_1.length c0_1, .slice A1_1 l1_1.length c1_1] ?_; (with_reducible refine (laws_eqInt64S.calls k _ _ l0_1 _ _ l1_1 true _ ?side1 ?side2 ?side3 ?side4 A4.out).mono ?_); (case side1 => exact zS (kO HR0_1.out HB.out)); (case side2 => exact HC0_1.out); (case side3 => exact zS (kO HR1_1.out HB.out)); (case side4 => exact HC1_1.out); rintro e w' ⟨rfl, ⟨nd, rfl⟩⟩; refine ⟨_, rfl, ?_⟩))
   go_ret
   exact ⟨zr, zV HB.out GE1436.out GE1437.out⟩
  replace c5 := Bool.eq_false_iff.mpr c5
  subst c5
  rw [if_neg (show ¬ (false = true) by decide)] at H
  obtain rfl := Option.some.inj H
  go_enter Tryd.func21, Tryd.ntmps21
  go_wp2_with (first | (refine zBE 2 #[.int .i64 a0_0, .slice A0_1 l0_1.length c0_1] 29 ?_; intro gb1436 hg w11 hbox hb; have BK1436 := zA (hbox); have GW1436 := zA (zBH hg HB.out); have GE1436 := zA (zBH hg HB.out); replace HB := zA (kQ (zQ HB.out) hb); clear hb hbox hg) | (refine zBE 3 #[.int .i64 a1_0, .slice A1_1 l1_1.length c1_1] 29 ?_; intro gb1437 hg w12 hbox hb; have BK1437 := zA (hbox); have GW1437 := zA (zB6 hg (kP (zT HB.out GE1436.out)) : w.heap.size ≤ gb1437); have GE1437 := zA (zB6 hg (kP (zT HB.out GE1436.out)) : w.heap.size ≤ gb1437); replace HB := zA (kQ (zT HB.out GE1436.out) hb); have NB1436_1437 := zA (zB4 hg BK1436.out : gb1436 ≠ gb1437); have NB1437_1436 := zA (zB5 hg BK1436.out : gb1437 ≠ gb1436); replace BK1436 := zA (zB1 BK1436.out hb); clear hb hbox hg; have hnb13 := NB1436_1437.out; have hnc13 := NB1437_1436.out; obtain ⟨hcz14_0, hcz14_1, hfz14_0, hfz14_1⟩ := zB3 BK1436.out; obtain ⟨hcz15_0, hcz15_1, hfz15_0, hfz15_1⟩ := zB3 BK1437.out) | (refine zO (some 14) Tryd.func22 #[.slice A0_1 l0_1.length c0_1, .slice A1_1 l1_1.length c1_1] ?_; (with_reducible refine (laws_eqInt64S.calls k _ _ l0_1 _ _ l1_1 false _ ?side1 ?side2 ?side3 ?side4 A4.out).mono ?_); (case side1 => exact zS (kO HR0_1.out HB.out)); (case side2 => exact HC0_1.out); (case side3 => exact zS (kO HR1_1.out HB.out)); (case side4 => exact HC1_1.out); rintro e w' ⟨rfl, ⟨nd, rfl⟩⟩; refine ⟨_, rfl, ?_⟩))
  go_ret
  exact ⟨zr, zV HB.out GE1436.out GE1437.out⟩
 rw [if_neg c3] at H
 obtain ⟨c3b0, c3b1⟩ := zT2 c3
 obtain rfl := Option.some.inj H
 go_enter Tryd.func21, Tryd.ntmps21
 go_wp2_with (first | (refine zBE 2 #[.int .i64 a0_0, .slice A0_1 l0_1.length c0_1] 29 ?_; intro gb1436 hg w16 hbox hb; have BK1436 := zA (hbox); have GW1436 := zA (zBH hg HB.out); have GE1436 := zA (zBH hg HB.out); replace HB := zA (kQ (zQ HB.out) hb); clear hb hbox hg) | (refine zBE 3 #[.int .i64 a1_0, .slice A1_1 l1_1.length c1_1] 29 ?_; intro gb1437 hg w17 hbox hb; have BK1437 := zA (hbox); have GW1437 := zA (zB6 hg (kP (zT HB.out GE1436.out)) : w.heap.size ≤ gb1437); have GE1437 := zA (zB6 hg (kP (zT HB.out GE1436.out)) : w.heap.size ≤ gb1437); replace HB := zA (kQ (zT HB.out GE1436.out) hb); have NB1436_1437 := zA (zB4 hg BK1436.out : gb1436 ≠ gb1437); have NB1437_1436 := zA (zB5 hg BK1436.out : gb1437 ≠ gb1436); replace BK1436 := zA (zB1 BK1436.out hb); clear hb hbox hg; have hnb18 := NB1436_1437.out; have hnc18 := NB1437_1436.out; obtain ⟨hcz19_0, hcz19_1, hfz19_0, hfz19_1⟩ := zB3 BK1436.out; obtain ⟨hcz20_0, hcz20_1, hfz20_0, hfz20_1⟩ := zB3 BK1437.out))
 go_ret
 exact ⟨zr, zV HB.out GE1436.out GE1437.out⟩

/-! ### laws_markInt64S: function 24 -/
def laws_markInt64S.l0 : Nat → List Int → Int → Int → Option (Int × List Int)
 | 0, _, _, _ => none
 | k + 1, x0, x1, x5 => if x5 < (x0.length : Int) then (if 0 ≤ x5 then (laws_markInt64S.l0 k (x0.set (x5 : Int).toNat x1) (wrap64 (x1 + 1)) (wrap64 (x5 + 1))) else (none)) else (some (x1, x0))
def laws_markInt64S.f (k : Nat) (l0 : List Int) (a1 : Int) : Option (Int × List Int) := laws_markInt64S.l0 k l0 a1 0

set_option maxHeartbeats 8000000 in
set_option maxRecDepth 100000 in
theorem laws_markInt64S.calls (k : Nat) (P0_ : Nat → Prop) (u9000_ : Value) (l0 : List Int) (a1 : Int) (r1 : Int) (r2 : List Int) (w0 w : World) (hB : Below w0.heap.size w0 w) (ho0 : Kd.R (Kd.int .i64) 2 w w0.heap.size P0_ u9000_ l0) (h : laws_markInt64S.f k l0 a1 = some (r1, r2)) :
  Calls Tryd.prog 24 #[u9000_, .int .i64 a1] w fun e w' => e = .returned (.int .i64 r1) ∧ Kd.R (Kd.int .i64) 2 w' w0.heap.size (fun k_ => (P0_ k_ ∨ w.heap.size ≤ k_)) u9000_ r2 ∧ Below w0.heap.size w0 w' ∧ Kept w w' (fun k_ => P0_ k_) := by
 have HO0 := zA (show Kd.R (Kd.int .i64) 2 w w0.heap.size (fun k_ => (P0_ k_ ∨ w.heap.size ≤ k_)) u9000_ l0 from kA ho0 (fun k_ hk => (.inl hk)))
 have HK := zA (Kept.refl w (fun k_ => P0_ k_))
 have HW0 := zA hB.size
 have HB := zA hB
 clear hB
 have H := h
 unfold laws_markInt64S.f at H
 clear h
 have H' := zA H
 clear H
 go_enter Tryd.func24, Tryd.ntmps24
 go_wp2
 go_loopg [1, 5] k (fun kq v1 v5 w' => ∃ (x0_1 : List Int) (x1_1 : Int) (x5_1 : Int), v1 = .int .i64 x1_1 ∧ v5 = .int .i64 x5_1 ∧ Aside0 (laws_markInt64S.l0 kq x0_1 x1_1 x5_1 = some (r1, r2)) ∧ Aside0 (kq ≤ k) ∧ Aside0 (Kd.R (Kd.int .i64) 2 w' w0.heap.size (fun k_ => (P0_ k_ ∨ w.heap.size ≤ k_)) u9000_ x0_1) ∧ Aside0 (Kept w w' (fun k_ => P0_ k_)) ∧ Aside0 (Below w0.heap.size w0 w'))
 case atStart => exact ⟨(l0), (a1), (0), zs, zs, H', ⟨Nat.le_refl _⟩, ⟨zP HO0.out⟩, ⟨by repeat (first | (with_reducible first | exact HK.out | apply Kept.alloc | apply Kept.drewN | apply Kept.drew) | exact HK.out)⟩, ⟨zQ HB.out⟩⟩
 case round =>
  clear H'
  try clear c2
  obtain ⟨x0_1, x1_1, x5_1, rfl, rfl, HA, HK1, HO_0, HK, HB⟩ := hrel
  cases gk with
  | zero => exact absurd HA.out (by simp [laws_markInt64S.l0])
  | succ k1 =>
   have H := HA.out
   clear HA
   simp only [laws_markInt64S.l0] at H
   by_cases c3 : x5_1 < (x0_1.length : Int)
   ·rw [if_pos c3] at H
    have c3b0 : decide (x5_1 < (x0_1.length : Int)) = true := decide_eq_true c3
    clear c3
    by_cases c4 : 0 ≤ x5_1
    ·rw [if_pos c4] at H
     have c4b0 : decide (0 ≤ x5_1) = true := decide_eq_true c4
     clear c4
     obtain ⟨y1439, hy1439⟩ : ∃ y_ : List Int, y_ = (x0_1.set (x5_1 : Int).toNat x1_1) := ⟨_, rfl⟩
     replace H : (laws_markInt64S.l0 k1 y1439 (wrap64 (x1_1 + 1)) (wrap64 (x5_1 + 1))) = some (r1, r2) := zy hy1439 H
     have Ny1439 := zA hy1439
     clear hy1439
     have H' := zA H
     clear H
     obtain ⟨Ao6, co6, eo6⟩ := kM HO_0.out
     subst eo6
     have p5 : 0 ≤ (x5_1 : Int) := zd
     have q5 : (x5_1 : Int) < ((x0_1.length : Int) : Int) := zd
     obtain ⟨go5, co5, eo5, gb5, gl5, cl5, HG5⟩ := Kd.R_form HO_0.out (by omega)
     (first | cases eo5 | (injection eo5 with ea_ en_ ec_; (first | subst ea_ | (injection ea_ with ea_; subst ea_)); subst ec_; clear en_))
     have GB5 := zA gb5
     have GG5 := zA HG5
     clear gb5 gl5 HG5
     have HMgo5 := zA (show (P0_ go5 ∨ w.heap.size ≤ go5) from (HO_0.out.1 _ rfl))
     obtain ⟨hx5_0, hf5_0⟩ := Kd.R_celln 0 HO_0.out (x5_1 : Int) p5 q5
     replace p5 := eq_true p5
     replace q5 := eq_true q5
     have HP7 := Kd.R_putg HO_0.out (x5_1 : Int) x1_1
     go_wp2_with (first | ((with_reducible refine gate_store (t := 2) (p := 15) rfl ?_); refine store_event (t := 2) (p := 15) (v := ?vo_w8) (w1 := (wr.setCell ⟨go5, (x5_1 : Int).toNat, none⟩ (.int .i64 x1_1))) ?hg ?ho ?hn ?hr ?_; (case ho => rfl); (case hg => rfl); (case hn => rfl); (case hr => first | (go_simp; done) | (go_simp; rfl)); intro w8 hw; have hg : wr.grownBy w8 (some go5) := (by rw [hw]; exact HP7.2); have hp_ : Kd.R (Kd.int .i64) 2 w8 w0.heap.size (fun k_ => (P0_ k_ ∨ w.heap.size ≤ k_)) (.slice (some ⟨go5, 0, none⟩) x0_1.length co6) y1439 := (by rw [hw, Ny1439.out]; exact HP7.1); clear HP7; replace HB := zA ((by rw [hw]; exact zE (HB.out) GB5.out : Below w0.heap.size w0 w8)); replace HK := zA (Kept.of_grown (S := (fun k_ => P0_ k_)) hg (by repeat (first | (with_reducible first | exact HK.out | apply Kept.alloc | apply Kept.drewN | apply Kept.drew) | exact HK.out)) (fun k_ e_ => (HO_0.out.1 k_ e_))); replace HO_0 := zA (hp_); clear hg hw hp_))
     go_roundg k1
     case measure => have := HK1.out; omega
     case rel => exact ⟨(y1439), (wrap64 (x1_1 + 1)), (wrap64 (x5_1 + 1)), zs, zs, H', ⟨by have := HK1.out; omega⟩, ⟨zP HO_0.out⟩, ⟨by repeat (first | (with_reducible first | exact HK.out | apply Kept.alloc | apply Kept.drewN | apply Kept.drew) | exact HK.out)⟩, ⟨zQ HB.out⟩⟩
    rw [if_neg c4] at H
    exact absurd H (by simp)
   rw [if_neg c3] at H
   have c3b0 : decide (x5_1 < (x0_1.length : Int)) = false := decide_eq_false c3
   clear c3
   simp only [Option.some.injEq, Prod.mk.injEq] at H
   obtain ⟨rfl, rfl⟩ := H
   obtain ⟨Ao9, co9, eo9⟩ := kM HO_0.out
   subst eo9
   go_wp2
   go_ret
   exact ⟨zr, zP HO_0.out, zQ HB.out, by repeat (first | (with_reducible first | exact HK.out | apply Kept.alloc | apply Kept.drewN | apply Kept.drew) | exact HK.out)⟩

/-! ### laws_markAlphabet: function 23 -/
def laws_markAlphabet.f (k : Nat) (a0_0 : Int) (l0_1 : List Int) (a1 : Int) : Option (Int × List Int) := (laws_markInt64S.f k l0_1 a1).bind fun bt1441 => (some (bt1441.1, bt1441.2))

set_option maxHeartbeats 8000000 in
set_option maxRecDepth 100000 in
theorem laws_markAlphabet.calls (k : Nat) (a0_0 : Int) (P0_1_ : Nat → Prop) (u9000_ : Value) (l0_1 : List Int) (a1 : Int) (r1 : Int) (r2 : List Int) (w0 w : World) (hB : Below w0.heap.size w0 w) (ho0_1 : Kd.R (Kd.int .i64) 2 w w0.heap.size P0_1_ u9000_ l0_1) (h : laws_markAlphabet.f k a0_0 l0_1 a1 = some (r1, r2)) :
  Calls Tryd.prog 23 #[.agg #[.int .i64 a0_0, u9000_], .int .i64 a1] w fun e w' => e = .returned (.int .i64 r1) ∧ Kd.R (Kd.int .i64) 2 w' w0.heap.size (fun k_ => (P0_1_ k_ ∨ w.heap.size ≤ k_)) u9000_ r2 ∧ Below w0.heap.size w0 w' ∧ Kept w w' (fun k_ => P0_1_ k_) := by
 have hu29 := Tryd.underlying29
 have HO0_1 := zA (show Kd.R (Kd.int .i64) 2 w w0.heap.size (fun k_ => (P0_1_ k_ ∨ w.heap.size ≤ k_)) u9000_ l0_1 from kA ho0_1 (fun k_ hk => (.inl hk)))
 have HK := zA (Kept.refl w (fun k_ => P0_1_ k_))
 have HW0 := zA hB.size
 have HB := zA hB
 clear hB
 have H := h
 unfold laws_markAlphabet.f at H
 clear h
 obtain ⟨⟨t1441, t1442⟩, A3, H⟩ := zb H
 try dsimp only at H
 simp only [Option.some.injEq, Prod.mk.injEq] at H
 obtain ⟨rfl, rfl⟩ := H
 obtain ⟨Ao4, co4, eo4⟩ := kM HO0_1.out
 subst eo4
 go_enter Tryd.func23, Tryd.ntmps23
 go_wp2_with (first | (refine zBE 2 #[.int .i64 a0_0, .slice Ao4 l0_1.length co4] 29 ?_; intro gb1440 hg w5 hbox hb; replace HO0_1 := zA (kL (zP HO0_1.out) hb); have BK1440 := zA (hbox); have GW1440 := zA (zB6 hg (by first | exact HK.out.1 | exact (show Kept w _ (fun k_ => P0_1_ k_) from by repeat (first | (with_reducible first | exact HK.out | apply Kept.alloc | apply Kept.drewN | apply Kept.drew) | exact HK.out)).1) : w.heap.size ≤ gb1440); replace HK := zA (Kept.below (S := (fun k_ => P0_1_ k_)) (by repeat (first | (with_reducible first | exact HK.out | apply Kept.alloc | apply Kept.drewN | apply Kept.drew) | exact HK.out)) hb); have GE1440 := zA (zBH hg HB.out); replace HB := zA (kQ (zQ HB.out) hb); clear hb hbox hg; obtain ⟨hcz6_0, hcz6_1, hfz6_0, hfz6_1⟩ := zB3 BK1440.out) | (refine zO (some 8) Tryd.func24 #[.slice Ao4 l0_1.length co4, .int .i64 a1] ?_; (with_reducible refine (laws_markInt64S.calls k (fun k_ => some k_ = (.slice Ao4 l0_1.length co4 : Value).ownBlock) (.slice Ao4 l0_1.length co4) l0_1 a1 t1441 t1442 w0 _ ?side1 ?side2 A3.out).mono ?_); (case side1 => exact zT HB.out GE1440.out); (case side2 => exact jK rfl HO0_1.out); rintro e w7 ⟨rfl, hy0, hb, hkp⟩; refine ⟨_, rfl, ?_⟩; replace BK1440 := zA (blk_kept (zR BK1440.out) hkp (fun hs_ => (fun e_ => (Kd.R_ne HO0_1.out BK1440.out (by decide)) e_) hs_)); replace HK := zA (Kept.then_ (S := (fun k_ => P0_1_ k_)) (by repeat (first | (with_reducible first | exact HK.out | apply Kept.alloc | apply Kept.drewN | apply Kept.drew | refine Kept.setCell ?_ (.inr GW1440.out) _) | exact HK.out)) hkp (fun k_ hs_ => (fun e_ => (HO0_1.out.1 k_ e_.symm)) hs_)); replace HO0_1 := zA (Kd.R_reok rfl hy0 (fun k_ e_ => HO0_1.out.1 k_ e_)); replace HB := zA (hb); (try clear hb); (try clear hkp); (try clear hy0)))
 go_ret
 exact ⟨zr, zP HO0_1.out, zT HB.out GE1440.out, by repeat (first | (with_reducible first | exact HK.out | apply Kept.alloc | apply Kept.drewN | apply Kept.drew | refine Kept.setCell ?_ (.inr GW1440.out) _) | exact HK.out)⟩

/-! ### laws_markInt64SS: function 25: a contract of our own -/
def laws_markInt64SS.l0 : Nat → List (List Int) → Int → Int → Option (Int × List (List Int))
 | 0, _, _, _ => none
 | k + 1, x0, x1, x5 => if x5 < (x0.length : Int) then (if 0 ≤ x5 then ((laws_markInt64S.f k (x0.getD (x5 : Int).toNat ([] : List Int)) x1).bind fun bt => laws_markInt64SS.l0 k (x0.set (x5 : Int).toNat bt.2) bt.1 (wrap64 (x5 + 1))) else none) else some (x1, x0)
def laws_markInt64SS.f (k : Nat) (l0 : List (List Int)) (a1 : Int) : Option (Int × List (List Int)) := laws_markInt64SS.l0 k l0 a1 0
/-- rows vw that were there when the rows vg were born (nb: the heap's size then); X: what both are apart from -/
def ZPair (nb : Nat) (w W : World) (X : Nat → Prop) (vw : Value) (lw : List (List Int)) (vg : Value) (lg : List (List Int)) : Prop :=
 w.heap.size ≤ nb ∧ Kd.S (Kd.slice 2 (Kd.int .i64)) 22 W w.heap.size (fun k => k < nb ∧ ¬ X k) vw lw ∧ Kd.S (Kd.slice 2 (Kd.int .i64)) 22 W w.heap.size (fun k => nb ≤ k ∧ ¬ X k) vg lg
theorem ZPair.mk {w W W1 : World} {X okw okg : Nat → Prop} {vw vg : Value} {lw lg : List (List Int)} (hw : Kd.S (Kd.slice 2 (Kd.int .i64)) 22 W w.heap.size okw vw lw) (hx : ∀ k, okw k → ¬ X k) (hb : Below W.heap.size W W1)
  (hg : Kd.S (Kd.slice 2 (Kd.int .i64)) 22 W1 W.heap.size okg vg lg) (hX : ∀ k, X k → k < W.heap.size) (hle : w.heap.size ≤ W.heap.size) : ∃ nb, ZPair nb w W1 X vw lw vg lg :=
 ⟨W.heap.size, hle, Kd.S_mono (Kd.S_old hw hb) (fun k hk => ⟨hk.2, hx k hk.1⟩), Kd.S_lower (Kd.S_mono (Kd.S_bound hg) (fun k hk => ⟨hk.2.1, fun h => by have := hX k h; have := hk.2.1; omega⟩)) hle⟩
theorem ZPair.below {nb : Nat} {w W W1 : World} {X : Nat → Prop} {vw vg : Value} {lw lg : List (List Int)} (h : ZPair nb w W X vw lw vg lg) (hb : Below W.heap.size W W1) : ZPair nb w W1 X vw lw vg lg := ⟨h.1, Kd.S_below h.2.1 hb, Kd.S_below h.2.2 hb⟩
theorem ZPair.alloc {nb : Nat} {w W : World} {X : Nat → Prop} {vw vg : Value} {lw lg : List (List Int)} (h : ZPair nb w W X vw lw vg lg) (o : Obj) : ZPair nb w (W.alloc o) X vw lw vg lg := ⟨h.1, Kd.S_alloc h.2.1 o, Kd.S_alloc h.2.2 o⟩
theorem ZPair.drew {nb : Nat} {w W : World} {X : Nat → Prop} {vw vg : Value} {lw lg : List (List Int)} (h : ZPair nb w W X vw lw vg lg) : ZPair nb w W.drew X vw lw vg lg := ⟨h.1, Kd.S_drew h.2.1, Kd.S_drew h.2.2⟩
theorem ZPair.drewN {nb : Nat} {w W : World} {X : Nat → Prop} {vw vg : Value} {lw lg : List (List Int)} (h : ZPair nb w W X vw lw vg lg) (m : Nat) : ZPair nb w (W.drewN m) X vw lw vg lg := ⟨h.1, Kd.S_drewN h.2.1 m, Kd.S_drewN h.2.2 m⟩
theorem zPZ {p q : Prop} (h : p) (hh : p → q := by intro h; (with_reducible repeat (first | apply ZPair.alloc | apply ZPair.drewN | apply ZPair.drew)); exact h) : q := hh h
theorem ZPair.kept {nb : Nat} {w W W1 : World} {X S : Nat → Prop} {vw vg : Value} {lw lg : List (List Int)} (h : ZPair nb w W X vw lw vg lg) (hk : Kept W W1 S) (hs : ∀ k, S k → X k) : ZPair nb w W1 X vw lw vg lg :=
 ⟨h.1, Kd.S_step h.2.1 (fun k ho hlt => hk.2 k hlt (fun e => ho.2 (hs k e))), Kd.S_step h.2.2 (fun k ho hlt => hk.2 k hlt (fun e => ho.2 (hs k e)))⟩
theorem ZPair.after {nb : Nat} {w W W1 : World} {X : Nat → Prop} {vw vg : Value} {lw lg : List (List Int)} (h : ZPair nb w W X vw lw vg lg) (hk : Kept W W1 (fun k => nb ≤ k ∧ ¬ X k)) : Kd.S (Kd.slice 2 (Kd.int .i64)) 22 W1 w.heap.size (fun k => k < nb ∧ ¬ X k) vw lw :=
 Kd.S_step h.2.1 (fun k ho hlt => hk.2 k hlt (fun e => Nat.not_le.2 ho.1 e.1))
set_option maxHeartbeats 8000000 in
set_option maxRecDepth 100000 in
theorem laws_markInt64SS.calls (k : Nat) (P0_ : Nat → Prop) (u9000_ : Value) (l0 : List (List Int)) (a1 : Int) (r1 : Int) (r2 : List (List Int)) (w0 w : World) (hB : Below w0.heap.size w0 w) (ho0 : Kd.S (Kd.slice 2 (Kd.int .i64)) 22 w w0.heap.size P0_ u9000_ l0) (h : laws_markInt64SS.f k l0 a1 = some (r1, r2)) :
  Calls Tryd.prog 25 #[u9000_, .int .i64 a1] w fun e w' => e = .returned (.int .i64 r1) ∧ Kd.S (Kd.slice 2 (Kd.int .i64)) 22 w' w0.heap.size P0_ u9000_ r2 ∧ Below w0.heap.size w0 w' ∧ Kept w w' P0_ := by
 have HO0 := zA ho0
 have HK := zA (Kept.refl w P0_)
 have HB := zA hB
 clear hB ho0
 have H' := zA h
 unfold laws_markInt64SS.f at H'
 clear h
 obtain ⟨Ao, co, eo⟩ := Kd.S_slice HO0.out
 have LE : Aside0 (u9000_ = .slice Ao l0.length co) := ⟨eo⟩
 subst eo
 generalize hn : l0.length = n at *
 have HN := zA hn
 clear hn
 go_enter Tryd.func25, Tryd.ntmps25
 go_wp2
 go_loopg [1, 5] k (fun kq v1 v5 w' => ∃ (x0_1 : List (List Int)) (x1_1 : Int) (x5_1 : Int), v1 = .int .i64 x1_1 ∧ v5 = .int .i64 x5_1 ∧ Aside0 (laws_markInt64SS.l0 kq x0_1 x1_1 x5_1 = some (r1, r2)) ∧ Aside0 (kq ≤ k) ∧ Aside0 (x0_1.length = n) ∧ Aside0 (Kd.S (Kd.slice 2 (Kd.int .i64)) 22 w' w0.heap.size P0_ (.slice Ao n co) x0_1) ∧ Aside0 (Kept w w' P0_) ∧ Aside0 (Below w0.heap.size w0 w'))
 case atStart => exact ⟨l0, a1, 0, rfl, rfl, H', ⟨Nat.le_refl _⟩, HN, ⟨by (with_reducible repeat (first | apply Kd.S_alloc | apply Kd.S_drewN | apply Kd.S_drew)); exact HO0.out⟩, ⟨by repeat (first | (with_reducible first | exact HK.out | apply Kept.alloc | apply Kept.drewN | apply Kept.drew) | exact HK.out)⟩, ⟨zQ HB.out⟩⟩
 case round =>
  clear H' HO0 HK HB HN
  try clear c2
  obtain ⟨x0_1, x1_1, x5_1, rfl, rfl, HA, HK1, HL, HO_0, HK, HB⟩ := hrel
  cases gk with
  | zero => exact absurd HA.out (by simp [laws_markInt64SS.l0])
  | succ k1 =>
   have H := HA.out
   clear HA
   simp only [laws_markInt64SS.l0] at H
   by_cases c3 : x5_1 < (x0_1.length : Int)
   ·rw [if_pos c3] at H
    rw [HL.out] at c3
    have c3b0 : decide (x5_1 < (n : Int)) = true := decide_eq_true c3
    by_cases c4 : 0 ≤ x5_1
    ·rw [if_pos c4] at H
     have c4b0 : decide (0 ≤ x5_1) = true := decide_eq_true c4
     obtain ⟨⟨bt1, bt2⟩, A5, H⟩ := zb H
     dsimp only at H
     have H' := zA H
     clear H
     obtain ⟨go5, cap5, ef5, gb5, gl5, HG5⟩ := Kd.S_form HO_0.out (by rw [HL.out]; omega)
     rw [HL.out] at ef5
     injection ef5 with ea_ en_ ec_
     subst ea_ ec_
     clear en_ gb5 gl5 HG5
     obtain ⟨oki, cs, hcl, hM, hcc, hoki, hH⟩ := Kd.S_lend HO_0.out ([] : List Int) x5_1 c4 c3
     obtain ⟨vi, ecs, hR⟩ := hM
     subst ecs
     obtain ⟨Ai, ci, evi, hlci, _⟩ := Kd.R_reads hR
     subst evi
     have hx : wr.cell? ⟨go5, x5_1.toNat, none⟩ = some (.slice Ai (x0_1.getD x5_1.toNat []).length ci) := by
      have := hcc 0 _ rfl
      rwa [show x5_1.toNat * (Kd.slice 2 (Kd.int .i64)).sz + 0 = x5_1.toNat by show x5_1.toNat * 1 + 0 = _; omega] at this
     replace c3 := eq_true c3
     replace c4 := eq_true c4
     have HR := zA hR
     have HH := zA hH
     have HI := zA hoki
     clear hR hH hoki hcc hcl
     go_wp2_with (first | (refine zO (some 17) Tryd.func24 #[.slice Ai (x0_1.getD x5_1.toNat []).length ci, .int .i64 x1_1] ?_; (with_reducible refine (laws_markInt64S.calls k1 oki (.slice Ai (x0_1.getD x5_1.toNat []).length ci) (x0_1.getD x5_1.toNat []) x1_1 bt1 bt2 w0 _ ?side1 ?side2 A5.out).mono ?_); (case side1 => exact zQ HB.out); (case side2 => exact zP HR.out); rintro e w55 ⟨rfl, hy0, hb, hkp⟩; refine ⟨_, rfl, ?_⟩; have HY := zA hy0; have HP := zA hkp; replace HB := zA hb; clear hy0 hb hkp))
     go_roundg k1
     case measure => have := HK1.out; omega
     case rel =>
      refine ⟨x0_1.set x5_1.toNat bt2, bt1, wrap64 (x5_1 + 1), rfl, rfl, H', ⟨by have := HK1.out; omega⟩, ⟨by rw [List.length_set]; exact HL.out⟩, ⟨?_⟩, ⟨Kept.then_ HK.out HP.out (fun k_ hk => .inl (HI.out k_ hk).1)⟩, HB⟩
      exact Kd.H_back (okp := fun k_ => some k_ = (Value.slice Ai (x0_1.getD x5_1.toNat []).length ci).ownBlock) (Kd.H_step HH.out (fun k_ _ hn hlt => HP.out.2 k_ hlt hn)) (Kd.M_row (jK rfl HY.out)) (fun k_ e => HR.out.1 k_ e.symm)
    rw [if_neg c4] at H
    exact absurd H (by simp)
   rw [if_neg c3] at H
   rw [HL.out] at c3
   have c3b0 : decide (x5_1 < (n : Int)) = false := decide_eq_false c3
   clear c3
   simp only [Option.some.injEq, Prod.mk.injEq] at H
   obtain ⟨rfl, rfl⟩ := H
   go_wp2
   go_ret
   exact ⟨rfl, by (with_reducible repeat (first | apply Kd.S_alloc | apply Kd.S_drewN | apply Kd.S_drew)); exact HO_0.out, zQ HB.out, by repeat (first | (with_reducible first | exact HK.out | apply Kept.alloc | apply Kept.drewN | apply Kept.drew) | exact HK.out)⟩

/-! ### laws_heldInt64S: function 33 -/
def laws_heldInt64S.l0 : Nat → List Int → Int → Int → Option (Int)
 | 0, _, _, _ => none
 | k + 1, x0, x1, x5 => if x5 < (x0.length : Int) then (if 0 ≤ x5 then (if (rd x0 x5) = x1 then (laws_heldInt64S.l0 k x0 (wrap64 (x1 + 1)) (wrap64 (x5 + 1))) else (some (-1))) else (none)) else (some x1)
def laws_heldInt64S.f (k : Nat) (l0 : List Int) (a1 : Int) : Option (Int) := laws_heldInt64S.l0 k l0 a1 0

set_option maxHeartbeats 8000000 in
set_option maxRecDepth 100000 in
theorem laws_heldInt64S.calls (k : Nat) (A0 : Option Addr) (c0 : Nat) (l0 : List Int) (a1 : Int) (r : Int) (w : World) (hr0 : Kd.C (Kd.int .i64) w A0 l0.length l0) (hc0 : l0.length ≤ c0) (h : laws_heldInt64S.f k l0 a1 = some r) :
  Calls Tryd.prog 33 #[.slice A0 l0.length c0, .int .i64 a1] w fun e w' => e = .returned (.int .i64 r) ∧ Drawn0 w w' := by
 have HR0 := zA hr0
 have HC0 := zA hc0
 clear hr0 hc0
 have H := h
 unfold laws_heldInt64S.f at H
 clear h
 have H' := zA H
 clear H
 go_enter Tryd.func33, Tryd.ntmps33
 go_wp2
 go_loopg [1, 5] k (fun kq v1 v5 w' => ∃ (x1_1 : Int) (x5_1 : Int), v1 = .int .i64 x1_1 ∧ v5 = .int .i64 x5_1 ∧ Aside0 (laws_heldInt64S.l0 kq l0 x1_1 x5_1 = some r) ∧ Aside0 (kq ≤ k) ∧ Drawn0 w w')
 case atStart => exact ⟨(a1), (0), zs, zs, H', ⟨Nat.le_refl _⟩, by repeat (first | exact Drawn0.refl _ | apply Drawn0.step)⟩
 case round =>
  clear H'
  obtain ⟨x1_1, x5_1, rfl, rfl, HA, HK1, ⟨m1, rfl⟩⟩ := hrel
  cases gk with
  | zero => exact absurd HA.out (by simp [laws_heldInt64S.l0])
  | succ k1 =>
   have H := HA.out
   clear HA
   simp only [laws_heldInt64S.l0] at H
   by_cases c3 : x5_1 < (l0.length : Int)
   ·rw [if_pos c3] at H
    have c3b0 : decide (x5_1 < (l0.length : Int)) = true := decide_eq_true c3
    clear c3
    by_cases c4 : 0 ≤ x5_1
    ·rw [if_pos c4] at H
     have c4b0 : decide (0 ≤ x5_1) = true := decide_eq_true c4
     clear c4
     by_cases c5 : (rd l0 x5_1) = x1_1
     ·rw [if_pos c5] at H
      obtain ⟨c5b0, c5b1⟩ := zT1 c5
      clear c5
      have H' := zA H
      clear H
      have p1443 : 0 ≤ (x5_1 : Int) := zd
      have q1443 : x5_1 < (l0.length : Int) := zd
      obtain ⟨ad1443, e1443, hx1443_0⟩ := Kd.at_int HR0.out x5_1 p1443 q1443
      cases e1443
      replace p1443 := eq_true p1443
      replace q1443 := eq_true q1443
      go_wp2
      go_roundg k1
      case measure => have := HK1.out; omega
      case rel => exact ⟨(wrap64 (x1_1 + 1)), (wrap64 (x5_1 + 1)), zs, zs, H', ⟨by have := HK1.out; omega⟩, by repeat (first | exact Drawn0.refl _ | apply Drawn0.step)⟩
     rw [if_neg c5] at H
     obtain ⟨c5b0, c5b1⟩ := zT2 c5
     obtain rfl := Option.some.inj H
     have p1443 : 0 ≤ (x5_1 : Int) := zd
     have q1443 : x5_1 < (l0.length : Int) := zd
     obtain ⟨ad1443, e1443, hx1443_0⟩ := Kd.at_int HR0.out x5_1 p1443 q1443
     cases e1443
     replace p1443 := eq_true p1443
     replace q1443 := eq_true q1443
     go_wp2
     go_ret
     exact ⟨zs, by repeat (first | exact Drawn0.refl _ | apply Drawn0.step)⟩
    rw [if_neg c4] at H
    exact absurd H (by simp)
   rw [if_neg c3] at H
   have c3b0 : decide (x5_1 < (l0.length : Int)) = false := decide_eq_false c3
   clear c3
   obtain rfl := Option.some.inj H
   go_wp2
   go_ret
   exact ⟨zs, by repeat (first | exact Drawn0.refl _ | apply Drawn0.step)⟩

end Go.Proofs.YthgapkbkhoeleaaDoor.PAll
