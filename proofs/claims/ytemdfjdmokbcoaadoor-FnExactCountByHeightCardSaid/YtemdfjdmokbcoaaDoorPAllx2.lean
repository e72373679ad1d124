-- Printed by a program of the session (wip/tools/pgen.py) out of the translation. Not trusted: Lean checks it.
import Derived.Test.YtemdfjdmokbcoaaDoorPAllx0
import Derived.Test.YtemdfjdmokbcoaaDoorPAllx1
namespace Go.Proofs.YtemdfjdmokbcoaaDoor.PAll
open Go.RowKit Go.Proofs.YtemdfjdmokbcoaaDoor.T Go.Proofs.YtemdfjdmokbcoaaDoorW.PrintWords Go.Proofs.YtemdfjdmokbcoaaDoorW.PrintLast Go.Proofs.YtemdfjdmokbcoaaDoorW.PrintMore
attribute [local go_sem] max2_int min2_int max_two min_two max_three min_three max_four min_four   -- for this text's walks alone
set_option linter.unusedVariables false
set_option linter.unusedSimpArgs false

/-! ### spec_CountTraces: function 23 -/
def spec_CountTraces.f (k : Nat) (a0_0 : Int) (l0_1 : List Int) (a1 : Int) : Option (Int × Int) := (spec_l06Code.f k a0_0 l0_1 a1).bind fun t177 => (if t177 = 0 then ((spec_l06Many.f k a0_0 l0_1 a1).bind fun t178 => (if t178 = 0 then ((spec_l06Tails.f k a0_0 l0_1 a1).bind fun t179 => (if 0 ≤ a1 then (if a1 < (t179.length : Int) then (if 0 < ((rd_L1 t179 a1).length : Int) then (some (rd (rd_L1 t179 a1) 0, 0)) else (none)) else (none)) else (none))) else (some (0, t178)))) else (some (0, t177)))

set_option maxHeartbeats 8000000 in
set_option maxRecDepth 100000 in
theorem spec_CountTraces.calls (k : Nat) (a0_0 : Int) (A0_1 : Option Addr) (c0_1 : Nat) (l0_1 : List Int) (a1 : Int) (r1 : Int) (r2 : Int) (w : World) (hr0_1 : Kd.C (Kd.int .i64) w A0_1 l0_1.length l0_1) (hc0_1 : l0_1.length ≤ c0_1) (h : spec_CountTraces.f k a0_0 l0_1 a1 = some (r1, r2)) :
  Calls Tryd.prog 23 #[.agg #[.int .i64 a0_0, .slice A0_1 l0_1.length c0_1], .int .i64 a1] w fun e w' => e = .returned (.tuple #[.int .i64 r1, .int .i64 r2]) ∧ Below w.heap.size w w' := by
 have hu29 := Tryd.underlying29
 have HR0_1 := zA hr0_1
 have HC0_1 := zA hc0_1
 clear hr0_1 hc0_1
 have HB := zA (kW w.heap.size w)
 have H := h
 unfold spec_CountTraces.f at H
 clear h
 obtain ⟨t177, A3, H⟩ := zb H
 try dsimp only at H
 by_cases c4 : t177 = 0
 ·rw [if_pos c4] at H
  obtain ⟨c4b0, c4b1⟩ := zT1 c4
  clear c4
  obtain ⟨t178, A5, H⟩ := zb H
  try dsimp only at H
  by_cases c6 : t178 = 0
  ·rw [if_pos c6] at H
   obtain ⟨c6b0, c6b1⟩ := zT1 c6
   clear c6
   obtain ⟨t179, A7, H⟩ := zb H
   try dsimp only at H
   by_cases c8 : 0 ≤ a1
   ·rw [if_pos c8] at H
    have c8b0 : decide (0 ≤ a1) = true := decide_eq_true c8
    clear c8
    by_cases c9 : a1 < (t179.length : Int)
    ·rw [if_pos c9] at H
     have c9b0 : decide (a1 < (t179.length : Int)) = true := decide_eq_true c9
     clear c9
     by_cases c10 : 0 < ((rd_L1 t179 a1).length : Int)
     ·rw [if_pos c10] at H
      have c10b0 : decide (0 < ((rd_L1 t179 a1).length : Int)) = true := decide_eq_true c10
      have c10b1 : decide (0 < (rd_L1 t179 a1).length) = true := decide_eq_true (by omega)
      clear c10
      simp only [Option.some.injEq, Prod.mk.injEq] at H
      obtain ⟨rfl, rfl⟩ := H
      go_enter Tryd.func23, Tryd.ntmps23
      go_wp2_with (first | (refine zBE 2 #[.int .i64 a0_0, .slice A0_1 l0_1.length c0_1] 29 ?_; intro gb176 hg w11 hbox hb; have BK176 := zA (hbox); have GW176 := zA (zBH hg HB.out); have GE176 := zA (zBH hg HB.out); replace HB := zA (kQ (zQ HB.out) hb); clear hb hbox hg; obtain ⟨hcz12_0, hcz12_1, hfz12_0, hfz12_1⟩ := zB3 BK176.out) | (refine zO (some 9) Tryd.func31 #[.agg #[.int .i64 a0_0, .slice A0_1 l0_1.length c0_1], .int .i64 a1] ?_; (with_reducible refine (spec_l06Code.calls k a0_0 _ _ l0_1 a1 t177 _ ?side1 ?side2 A3.out).mono ?_); (case side1 => exact zS (kO HR0_1.out HB.out)); (case side2 => exact HC0_1.out); rintro e w13 ⟨rfl, hb⟩; refine ⟨_, rfl, ?_⟩; replace BK176 := zA (zB1 BK176.out hb); replace HB := zA (kQ (zT HB.out GE176.out) hb); (try clear hb); obtain ⟨hcz14_0, hcz14_1, hfz14_0, hfz14_1⟩ := zB3 BK176.out) | (refine zO (some 14) Tryd.func34 #[.agg #[.int .i64 a0_0, .slice A0_1 l0_1.length c0_1], .int .i64 a1] ?_; (with_reducible refine (spec_l06Many.calls k a0_0 _ _ l0_1 a1 t178 _ ?side1 ?side2 A5.out).mono ?_); (case side1 => exact zS (kO HR0_1.out HB.out)); (case side2 => exact HC0_1.out); rintro e w15 ⟨rfl, hb⟩; refine ⟨_, rfl, ?_⟩; replace BK176 := zA (zB1 BK176.out hb); replace HB := zA (kQ (zT HB.out GE176.out) hb); (try clear hb); obtain ⟨hcz16_0, hcz16_1, hfz16_0, hfz16_1⟩ := zB3 BK176.out) | (refine zO (some 20) Tryd.func45 #[.agg #[.int .i64 a0_0, .slice A0_1 l0_1.length c0_1], .int .i64 a1] ?_; (with_reducible refine (spec_l06Tails.calls k a0_0 _ _ l0_1 a1 t179 _ ?side1 ?side2 A7.out).mono ?_); (case side1 => exact zS (kO HR0_1.out HB.out)); (case side2 => exact HC0_1.out); rintro e w17 ⟨v180, rfl, ho0, hb⟩; refine ⟨_, rfl, ?_⟩; have HO181 := zA (jN (Kd.N_mono (ok' := fun k_ => k_ ≠ gb176) ho0 (fun k_ hk_ => (jE (g := gb176) (o := .cells #[.int .i64 a0_0, .slice A0_1 l0_1.length c0_1] 29 (0, 0)) (zR BK176.out) k_ hk_))) (kP (zT HB.out GE176.out))); replace BK176 := zA (zB1 BK176.out hb); replace HB := zA (kQ (zT HB.out GE176.out) hb); (try clear hb); (try clear ho0); obtain ⟨Ao18, co18, eo18⟩ := Kd.N_slice HO181.out; subst eo18; have p182 : 0 ≤ (a1 : Int) := zd; have q182 : a1 < (t179.length : Int) := zd; obtain ⟨ad182, A182_0, c182_0, e182, hx182_0, hl182_0, hi182_0⟩ := at_L1 (Kd.N_reads' HO181.out).2.2 a1 p182 q182; cases e182; obtain ⟨ce182, hce182, hMe182, hcc182⟩ := Kd.N_get HO181.out [] a1 p182 (by first | exact q182 | exact zd | (have e_ := (Kd.N_reads' HO181.out).1; omega)); obtain ⟨ua182_0, uc182_0, rfl, ul182_0, ge182_0⟩ := Kd.FK_slice_open hMe182; have hv182_0 := hcc182 0 _ rfl; rw [Nat.add_zero, show ((Kd.slice 2 (Kd.int .i64))).sz = 1 from rfl, Nat.mul_one] at hv182_0; replace hv182_0 := Option.some.inj (hv182_0.symm.trans hx182_0); injection hv182_0 with hva_ hvn_ hvc_; rw [hva_] at ge182_0; rw [hvc_] at ul182_0; have HL182_0 := zA (show Kd.V (Kd.int .i64) 2 _ w.heap.size _ _ (rd_L1 t179 a1) from Kd.V_mk ul182_0 ge182_0); clear hva_ hvn_ hvc_ ge182_0 ul182_0; clear hcc182 hce182; have HR182_0 := zA hi182_0; have HC182_0 := zA hl182_0; clear hi182_0 hl182_0; replace p182 := eq_true p182; replace q182 := eq_true q182; have p183 : 0 ≤ (0 : Int) := (by omega); have q183 : 0 < ((rd_L1 t179 a1).length : Int) := zd; obtain ⟨ad183, e183, hx183_0⟩ := Kd.at_int (by repeat (first | (with_reducible exact HR182_0.out) | (with_reducible refine Kd.C_alloc ?_ _) | (with_reducible refine Kd.C_drewN ?_ _) | (with_reducible refine Kd.C_drew ?_) | exact HR182_0.out)) 0 p183 q183; cases e183; have qi183 : (0 < (rd_L1 t179 a1).length) = True := eq_true (by omega); (try rw [show ((0 : Int)).toNat = 0 from rfl] at hx183_0); (try rw [Addr.add_zero'] at hx183_0); replace p183 := eq_true p183; replace q183 := eq_true q183))
      go_ret2
      exact ⟨zr, zT HB.out GE176.out⟩
     rw [if_neg c10] at H
     exact absurd H (by simp)
    rw [if_neg c9] at H
    exact absurd H (by simp)
   rw [if_neg c8] at H
   exact absurd H (by simp)
  rw [if_neg c6] at H
  obtain ⟨c6b0, c6b1⟩ := zT2 c6
  simp only [Option.some.injEq, Prod.mk.injEq] at H
  obtain ⟨rfl, rfl⟩ := H
  go_enter Tryd.func23, Tryd.ntmps23
  go_wp2_with (first | (refine zBE 2 #[.int .i64 a0_0, .slice A0_1 l0_1.length c0_1] 29 ?_; intro gb176 hg w19 hbox hb; have BK176 := zA (hbox); have GW176 := zA (zBH hg HB.out); have GE176 := zA (zBH hg HB.out); replace HB := zA (kQ (zQ HB.out) hb); clear hb hbox hg; obtain ⟨hcz20_0, hcz20_1, hfz20_0, hfz20_1⟩ := zB3 BK176.out) | (refine zO (some 9) Tryd.func31 #[.agg #[.int .i64 a0_0, .slice A0_1 l0_1.length c0_1], .int .i64 a1] ?_; (with_reducible refine (spec_l06Code.calls k a0_0 _ _ l0_1 a1 t177 _ ?side1 ?side2 A3.out).mono ?_); (case side1 => exact zS (kO HR0_1.out HB.out)); (case side2 => exact HC0_1.out); rintro e w21 ⟨rfl, hb⟩; refine ⟨_, rfl, ?_⟩; replace BK176 := zA (zB1 BK176.out hb); replace HB := zA (kQ (zT HB.out GE176.out) hb); (try clear hb); obtain ⟨hcz22_0, hcz22_1, hfz22_0, hfz22_1⟩ := zB3 BK176.out) | (refine zO (some 14) Tryd.func34 #[.agg #[.int .i64 a0_0, .slice A0_1 l0_1.length c0_1], .int .i64 a1] ?_; (with_reducible refine (spec_l06Many.calls k a0_0 _ _ l0_1 a1 t178 _ ?side1 ?side2 A5.out).mono ?_); (case side1 => exact zS (kO HR0_1.out HB.out)); (case side2 => exact HC0_1.out); rintro e w23 ⟨rfl, hb⟩; refine ⟨_, rfl, ?_⟩; replace BK176 := zA (zB1 BK176.out hb); replace HB := zA (kQ (zT HB.out GE176.out) hb); (try clear hb)))
  go_ret2
  exact ⟨zr, zT HB.out GE176.out⟩
 rw [if_neg c4] at H
 obtain ⟨c4b0, c4b1⟩ := zT2 c4
 simp only [Option.some.injEq, Prod.mk.injEq] at H
 obtain ⟨rfl, rfl⟩ := H
 go_enter Tryd.func23, Tryd.ntmps23
 go_wp2_with (first | (refine zBE 2 #[.int .i64 a0_0, .slice A0_1 l0_1.length c0_1] 29 ?_; intro gb176 hg w24 hbox hb; have BK176 := zA (hbox); have GW176 := zA (zBH hg HB.out); have GE176 := zA (zBH hg HB.out); replace HB := zA (kQ (zQ HB.out) hb); clear hb hbox hg; obtain ⟨hcz25_0, hcz25_1, hfz25_0, hfz25_1⟩ := zB3 BK176.out) | (refine zO (some 9) Tryd.func31 #[.agg #[.int .i64 a0_0, .slice A0_1 l0_1.length c0_1], .int .i64 a1] ?_; (with_reducible refine (spec_l06Code.calls k a0_0 _ _ l0_1 a1 t177 _ ?side1 ?side2 A3.out).mono ?_); (case side1 => exact zS (kO HR0_1.out HB.out)); (case side2 => exact HC0_1.out); rintro e w26 ⟨rfl, hb⟩; refine ⟨_, rfl, ?_⟩; replace BK176 := zA (zB1 BK176.out hb); replace HB := zA (kQ (zT HB.out GE176.out) hb); (try clear hb)))
 go_ret2
 exact ⟨zr, zT HB.out GE176.out⟩

/-! ### spec_l02Step: function 56 -/
def spec_l02Step.l0 : Nat → Int → Int → Int → List Int → Option (Bool)
 | 0, _, _, _, _ => none
 | k + 1, x1, x5, x185000, x185001 => if x5 < x185000 then ((spec_l01Bit.f x1 x5).bind fun t185 => (if t185 = true then (if 0 ≤ x5 then (if x5 < (x185001.length : Int) then ((spec_l01One.f x5).bind fun t187 => (if (Go.bits .and .i64 (rd x185001 x5) x1) = t187 then (spec_l02Step.l0 k x1 (wrap64 (x5 + 1)) x185000 x185001) else (some false))) else (none)) else (none)) else (spec_l02Step.l0 k x1 (wrap64 (x5 + 1)) x185000 x185001))) else (some true)
def spec_l02Step.f (k : Nat) (a0_0 : Int) (l0_1 : List Int) (a1 : Int) : Option (Bool) := spec_l02Step.l0 k a1 0 a0_0 l0_1

set_option maxHeartbeats 8000000 in
set_option maxRecDepth 100000 in
theorem spec_l02Step.calls (k : Nat) (a0_0 : Int) (A0_1 : Option Addr) (c0_1 : Nat) (l0_1 : List Int) (a1 : Int) (r : Bool) (w : World) (hr0_1 : Kd.C (Kd.int .i64) w A0_1 l0_1.length l0_1) (hc0_1 : l0_1.length ≤ c0_1) (h : spec_l02Step.f k a0_0 l0_1 a1 = some r) :
  Calls Tryd.prog 56 #[.agg #[.int .i64 a0_0, .slice A0_1 l0_1.length c0_1], .int .i64 a1] w fun e w' => e = .returned (.bool r) ∧ Below w.heap.size w w' := by
 have hu29 := Tryd.underlying29
 have HR0_1 := zA hr0_1
 have HC0_1 := zA hc0_1
 clear hr0_1 hc0_1
 have HB := zA (kW w.heap.size w)
 have H := h
 unfold spec_l02Step.f at H
 clear h
 have H' := zA H
 clear H
 go_enter Tryd.func56, Tryd.ntmps56
 go_wp2_with (first | (refine zBE 2 #[.int .i64 a0_0, .slice A0_1 l0_1.length c0_1] 29 ?_; intro gb184 hg w3 hbox hb; have BK184 := zA (hbox); have GW184 := zA (zBH hg HB.out); have GE184 := zA (zBH hg HB.out); replace HB := zA (kQ (zQ HB.out) hb); clear hb hbox hg))
 repeat (go_quiet (first | (refine zBE 2 #[.int .i64 a0_0, .slice A0_1 l0_1.length c0_1] 29 ?_; intro gb184 hg w3 hbox hb; have n0_ := zA (kQ (zQ HB.out) hb); have n1_ := zA (hbox); have n2_ := zA (zBH hg HB.out); have n3_ := zA (zBH hg HB.out); clear HB; have HB := n0_; have BK184 := n1_; have GW184 := n2_; have GE184 := n3_; clear n0_ n1_ n2_ n3_; clear hb hbox hg)); try go_wp2_with (first | (refine zBE 2 #[.int .i64 a0_0, .slice A0_1 l0_1.length c0_1] 29 ?_; intro gb184 hg w3 hbox hb; have BK184 := zA (hbox); have GW184 := zA (zBH hg HB.out); have GE184 := zA (zBH hg HB.out); replace HB := zA (kQ (zQ HB.out) hb); clear hb hbox hg)))
 go_loopg [5] k (fun kq v5 w' => ∃ (x5_1 : Int), v5 = .int .i64 x5_1 ∧ Aside0 (spec_l02Step.l0 kq a1 x5_1 a0_0 l0_1 = some r) ∧ Aside0 (kq ≤ k) ∧ Aside0 (w'.heap[gb184]? = some (.cells #[.int .i64 a0_0, (.slice A0_1 l0_1.length c0_1)] 29 (0, 0))) ∧ Aside0 (Below w.heap.size w w'))
 case atStart => exact ⟨(0), zs, H', ⟨Nat.le_refl _⟩, ⟨zR BK184.out⟩, ⟨zT HB.out GE184.out⟩⟩
 case round =>
  clear H'
  obtain ⟨x5_1, rfl, HA, HK1, BK184, HB⟩ := hrel
  cases gk with
  | zero => exact absurd HA.out (by simp [spec_l02Step.l0])
  | succ k1 =>
   have H := HA.out
   clear HA
   simp only [spec_l02Step.l0] at H
   by_cases c4 : x5_1 < a0_0
   ·rw [if_pos c4] at H
    have c4b0 : decide (x5_1 < a0_0) = true := decide_eq_true c4
    clear c4
    obtain ⟨t185, A5, H⟩ := zb H
    try dsimp only at H
    by_cases c6 : t185 = true
    ·subst c6
     rw [if_pos rfl] at H
     by_cases c7 : 0 ≤ x5_1
     ·rw [if_pos c7] at H
      have c7b0 : decide (0 ≤ x5_1) = true := decide_eq_true c7
      clear c7
      by_cases c8 : x5_1 < (l0_1.length : Int)
      ·rw [if_pos c8] at H
       have c8b0 : decide (x5_1 < (l0_1.length : Int)) = true := decide_eq_true c8
       clear c8
       obtain ⟨t187, A9, H⟩ := zb H
       try dsimp only at H
       by_cases c10 : (Go.bits .and .i64 (rd l0_1 x5_1) a1) = t187
       ·rw [if_pos c10] at H
        obtain ⟨c10b0, c10b1⟩ := zT1 c10
        clear c10
        have H' := zA H
        clear H
        obtain ⟨hcz11_0, hcz11_1, hfz11_0, hfz11_1⟩ := zB3 BK184.out
        go_wp2_with (first | (go_at_call 47; (with_reducible refine (spec_l01Bit.calls a1 x5_1 true _ A5.out).mono ?_); rintro e w' ⟨rfl, ⟨nd, rfl⟩⟩; (try exact zw); have p186 : 0 ≤ (x5_1 : Int) := zd; have q186 : x5_1 < (l0_1.length : Int) := zd; obtain ⟨ad186, e186, hx186_0⟩ := Kd.at_int HR0_1.out x5_1 p186 q186; cases e186; replace hx186_0 := (HB.out.cell (jG w _ hx186_0)).trans hx186_0; replace p186 := eq_true p186; replace q186 := eq_true q186) | (go_at_call 55; (with_reducible refine (spec_l01One.calls x5_1 t187 _ A9.out).mono ?_); rintro e w' ⟨rfl, ⟨nd, rfl⟩⟩; (try exact zw)))
        repeat (go_quiet (first | (go_at_call 47; (with_reducible refine (spec_l01Bit.calls a1 x5_1 true _ A5.out).mono ?_); rintro e w' ⟨rfl, ⟨nd, rfl⟩⟩; (try exact zw); have p186 : 0 ≤ (x5_1 : Int) := zd; have q186 : x5_1 < (l0_1.length : Int) := zd; obtain ⟨ad186, e186, hx186_0⟩ := Kd.at_int HR0_1.out x5_1 p186 q186; cases e186; replace hx186_0 := (HB.out.cell (jG w _ hx186_0)).trans hx186_0; replace p186 := eq_true p186; replace q186 := eq_true q186) | (go_at_call 55; (with_reducible refine (spec_l01One.calls x5_1 t187 _ A9.out).mono ?_); rintro e w' ⟨rfl, ⟨nd, rfl⟩⟩; (try exact zw))); try go_wp2_with (first | (go_at_call 47; (with_reducible refine (spec_l01Bit.calls a1 x5_1 true _ A5.out).mono ?_); rintro e w' ⟨rfl, ⟨nd, rfl⟩⟩; (try exact zw); have p186 : 0 ≤ (x5_1 : Int) := zd; have q186 : x5_1 < (l0_1.length : Int) := zd; obtain ⟨ad186, e186, hx186_0⟩ := Kd.at_int HR0_1.out x5_1 p186 q186; cases e186; replace hx186_0 := (HB.out.cell (jG w _ hx186_0)).trans hx186_0; replace p186 := eq_true p186; replace q186 := eq_true q186) | (go_at_call 55; (with_reducible refine (spec_l01One.calls x5_1 t187 _ A9.out).mono ?_); rintro e w' ⟨rfl, ⟨nd, rfl⟩⟩; (try exact zw))))
        go_roundg k1
        case measure => have := HK1.out; omega
        case rel => exact ⟨(wrap64 (x5_1 + 1)), zs, H', ⟨by have := HK1.out; omega⟩, ⟨zR BK184.out⟩, ⟨zT HB.out GE184.out⟩⟩
       rw [if_neg c10] at H
       obtain ⟨c10b0, c10b1⟩ := zT2 c10
       obtain rfl := Option.some.inj H
       obtain ⟨hcz12_0, hcz12_1, hfz12_0, hfz12_1⟩ := zB3 BK184.out
       go_wp2_with (first | (go_at_call 47; (with_reducible refine (spec_l01Bit.calls a1 x5_1 true _ A5.out).mono ?_); rintro e w' ⟨rfl, ⟨nd, rfl⟩⟩; (try exact zw); have p186 : 0 ≤ (x5_1 : Int) := zd; have q186 : x5_1 < (l0_1.length : Int) := zd; obtain ⟨ad186, e186, hx186_0⟩ := Kd.at_int HR0_1.out x5_1 p186 q186; cases e186; replace hx186_0 := (HB.out.cell (jG w _ hx186_0)).trans hx186_0; replace p186 := eq_true p186; replace q186 := eq_true q186) | (go_at_call 55; (with_reducible refine (spec_l01One.calls x5_1 t187 _ A9.out).mono ?_); rintro e w' ⟨rfl, ⟨nd, rfl⟩⟩; (try exact zw)))
       repeat (go_quiet (first | (go_at_call 47; (with_reducible refine (spec_l01Bit.calls a1 x5_1 true _ A5.out).mono ?_); rintro e w' ⟨rfl, ⟨nd, rfl⟩⟩; (try exact zw); have p186 : 0 ≤ (x5_1 : Int) := zd; have q186 : x5_1 < (l0_1.length : Int) := zd; obtain ⟨ad186, e186, hx186_0⟩ := Kd.at_int HR0_1.out x5_1 p186 q186; cases e186; replace hx186_0 := (HB.out.cell (jG w _ hx186_0)).trans hx186_0; replace p186 := eq_true p186; replace q186 := eq_true q186) | (go_at_call 55; (with_reducible refine (spec_l01One.calls x5_1 t187 _ A9.out).mono ?_); rintro e w' ⟨rfl, ⟨nd, rfl⟩⟩; (try exact zw))); try go_wp2_with (first | (go_at_call 47; (with_reducible refine (spec_l01Bit.calls a1 x5_1 true _ A5.out).mono ?_); rintro e w' ⟨rfl, ⟨nd, rfl⟩⟩; (try exact zw); have p186 : 0 ≤ (x5_1 : Int) := zd; have q186 : x5_1 < (l0_1.length : Int) := zd; obtain ⟨ad186, e186, hx186_0⟩ := Kd.at_int HR0_1.out x5_1 p186 q186; cases e186; replace hx186_0 := (HB.out.cell (jG w _ hx186_0)).trans hx186_0; replace p186 := eq_true p186; replace q186 := eq_true q186) | (go_at_call 55; (with_reducible refine (spec_l01One.calls x5_1 t187 _ A9.out).mono ?_); rintro e w' ⟨rfl, ⟨nd, rfl⟩⟩; (try exact zw))))
       go_ret
       exact ⟨zr, zT HB.out GE184.out⟩
      rw [if_neg c8] at H
      exact absurd H (by simp)
     rw [if_neg c7] at H
     exact absurd H (by simp)
    replace c6 := Bool.eq_false_iff.mpr c6
    subst c6
    rw [if_neg (show ¬ (false = true) by decide)] at H
    have H' := zA H
    clear H
    obtain ⟨hcz13_0, hcz13_1, hfz13_0, hfz13_1⟩ := zB3 BK184.out
    go_wp2_with (first | (go_at_call 47; (with_reducible refine (spec_l01Bit.calls a1 x5_1 false _ A5.out).mono ?_); rintro e w' ⟨rfl, ⟨nd, rfl⟩⟩; (try exact zw)))
    repeat (go_quiet (first | (go_at_call 47; (with_reducible refine (spec_l01Bit.calls a1 x5_1 false _ A5.out).mono ?_); rintro e w' ⟨rfl, ⟨nd, rfl⟩⟩; (try exact zw))); try go_wp2_with (first | (go_at_call 47; (with_reducible refine (spec_l01Bit.calls a1 x5_1 false _ A5.out).mono ?_); rintro e w' ⟨rfl, ⟨nd, rfl⟩⟩; (try exact zw))))
    go_roundg k1
    case measure => have := HK1.out; omega
    case rel => exact ⟨(wrap64 (x5_1 + 1)), zs, H', ⟨by have := HK1.out; omega⟩, ⟨zR BK184.out⟩, ⟨zT HB.out GE184.out⟩⟩
   rw [if_neg c4] at H
   have c4b0 : decide (x5_1 < a0_0) = false := decide_eq_false c4
   clear c4
   obtain rfl := Option.some.inj H
   obtain ⟨hcz14_0, hcz14_1, hfz14_0, hfz14_1⟩ := zB3 BK184.out
   go_wp2
   repeat (go_quiet (fail); try go_wp2)
   go_ret
   exact ⟨zr, zT HB.out GE184.out⟩

/-! ### spec_l02Steps: function 36 -/
def spec_l02Steps.l0 : Nat → List Int → Int → Int → List Int → Option (List Int)
 | 0, _, _, _, _ => none
 | k + 1, x3, x4, x189000, x189001 => (spec_l01Full.f x189000).bind fun t192 => (if x4 ≤ t192 then ((spec_l02Step.f k x189000 x189001 x4).bind fun t193 => (if t193 = true then (if x3.length < 17592186044416 then (spec_l02Steps.l0 k (x3 ++ [x4]) (wrap64 (x4 + 1)) x189000 x189001) else (none)) else (spec_l02Steps.l0 k x3 (wrap64 (x4 + 1)) x189000 x189001))) else (some x3))
def spec_l02Steps.f (k : Nat) (a0_0 : Int) (l0_1 : List Int) : Option (List Int) := spec_l02Steps.l0 k (([] : List Int)) 0 a0_0 l0_1

set_option maxHeartbeats 8000000 in
set_option maxRecDepth 100000 in
theorem spec_l02Steps.calls (k : Nat) (a0_0 : Int) (A0_1 : Option Addr) (c0_1 : Nat) (l0_1 : List Int) (r : List Int) (w : World) (hr0_1 : Kd.C (Kd.int .i64) w A0_1 l0_1.length l0_1) (hc0_1 : l0_1.length ≤ c0_1) (h : spec_l02Steps.f k a0_0 l0_1 = some r) :
  Calls Tryd.prog 36 #[.agg #[.int .i64 a0_0, .slice A0_1 l0_1.length c0_1]] w fun e w' => ∃ v0_ : Value, e = .returned (v0_) ∧ Kd.R (Kd.int .i64) 2 w' w.heap.size (fun _ => True) v0_ r ∧ Below w.heap.size w w' := by
 have hu29 := Tryd.underlying29
 have HR0_1 := zA hr0_1
 have HC0_1 := zA hc0_1
 clear hr0_1 hc0_1
 have HB := zA (kW w.heap.size w)
 have H := h
 unfold spec_l02Steps.f at H
 clear h
 obtain ⟨y189, hy189⟩ : ∃ y_ : List Int, y_ = (([] : List Int)) := ⟨_, rfl⟩
 replace H : (spec_l02Steps.l0 k y189 0 a0_0 l0_1) = some r := zy hy189 H
 have Ny189 := zA hy189
 clear hy189
 have H' := zA H
 clear H
 go_enter Tryd.func36, Tryd.ntmps36
 go_wp2_with (first | (refine zBE 1 #[.int .i64 a0_0, .slice A0_1 l0_1.length c0_1] 29 ?_; intro gb188 hg w2 hbox hb; have BK188 := zA (hbox); have GW188 := zA (zBH hg HB.out); have GE188 := zA (zBH hg HB.out); replace HB := zA (kQ (zQ HB.out) hb); clear hb hbox hg) | ((with_reducible refine kS (N := 5) rfl ?_); refine Kd.R_lit (Kd.int .i64) _ 2 ?hg (N := 5) ?hd (xs := ([] : List Int)) (inner := []) (ok := fun _ => True) (okp := fun _ => True) ?hr ?hp (fun _ hk => hk) trivial (kW _ _) (Nat.le_refl _) (by simp) ?_; (case hd => rfl); (case hg => rfl); (case hr => first | (go_simp; done) | (go_simp; rfl)); (case hp => exact (Reps.none _ _)); intro v190 w3 ho4 hb hg_ hnew_; clear hg_ hnew_; (first | rw [← Ny189.out] at ho4 | (simp only [Int.reduceToNat] at ho4; rw [← Ny189.out] at ho4)); have HO191 := zA (kI ho4 (kP (zT HB.out GE188.out))); replace BK188 := zA (zB1 BK188.out hb); replace HB := zA (kQ (zT HB.out GE188.out) hb); clear hb ho4))
 go_loopg [3, 4] k (fun kq v3 v4 w' => ∃ (x3_1 : List Int) (x4_1 : Int), v4 = .int .i64 x4_1 ∧ Aside0 (spec_l02Steps.l0 kq x3_1 x4_1 a0_0 l0_1 = some r) ∧ Aside0 (kq ≤ k) ∧ Aside0 (Kd.R (Kd.int .i64) 2 w' w.heap.size (fun _ => True) v3 x3_1) ∧ Aside0 (w'.heap[gb188]? = some (.cells #[.int .i64 a0_0, (.slice A0_1 l0_1.length c0_1)] 29 (0, 0))) ∧ Aside0 (Below w.heap.size w w'))
 case atStart => exact ⟨(y189), (0), zs, H', ⟨Nat.le_refl _⟩, ⟨zP HO191.out⟩, ⟨zR BK188.out⟩, ⟨zT HB.out GE188.out⟩⟩
 case round =>
  clear H'
  try clear c3
  obtain ⟨x3_1, x4_1, rfl, HA, HK1, HO_3, BK188, HB⟩ := hrel
  cases gk with
  | zero => exact absurd HA.out (by simp [spec_l02Steps.l0])
  | succ k1 =>
   have H := HA.out
   clear HA
   simp only [spec_l02Steps.l0] at H
   obtain ⟨t192, A5, H⟩ := zb H
   try dsimp only at H
   by_cases c6 : x4_1 ≤ t192
   ·rw [if_pos c6] at H
    have c6b0 : decide (x4_1 ≤ t192) = true := decide_eq_true c6
    clear c6
    obtain ⟨t193, A7, H⟩ := zb H
    try dsimp only at H
    by_cases c8 : t193 = true
    ·subst c8
     rw [if_pos rfl] at H
     by_cases c9 : x3_1.length < 17592186044416
     ·rw [if_pos c9] at H
      have LMc9 := zA c9
      clear c9
      obtain ⟨y194, hy194⟩ : ∃ y_ : List Int, y_ = (x3_1 ++ [x4_1]) := ⟨_, rfl⟩
      replace H : (spec_l02Steps.l0 k1 y194 (wrap64 (x4_1 + 1)) a0_0 l0_1) = some r := zy hy194 H
      have Ny194 := zA hy194
      clear hy194
      have H' := zA H
      clear H
      obtain ⟨hcz10_0, hcz10_1, hfz10_0, hfz10_1⟩ := zB3 BK188.out
      go_wp2_with (first | (refine zO (some 9) Tryd.func33 #[.int .i64 a0_0] ?_; (with_reducible refine (spec_l01Full.calls a0_0 t192 _ A5.out).mono ?_); rintro e w' ⟨rfl, ⟨nd, rfl⟩⟩; refine ⟨_, rfl, ?_⟩) | (refine zO (some 15) Tryd.func56 #[.agg #[.int .i64 a0_0, .slice A0_1 l0_1.length c0_1], .int .i64 x4_1] ?_; (with_reducible refine (spec_l02Step.calls k1 a0_0 _ _ l0_1 x4_1 true _ ?side1 ?side2 A7.out).mono ?_); (case side1 => exact zS (kO HR0_1.out (zT HB.out GE188.out))); (case side2 => exact HC0_1.out); rintro e w11 ⟨rfl, hb⟩; refine ⟨_, rfl, ?_⟩; replace HO_3 := zA (kL (zP HO_3.out) hb); replace BK188 := zA (zB1 BK188.out hb); replace HB := zA (kQ (zT HB.out GE188.out) hb); (try clear hb)) | ((with_reducible refine gate_builtin (b := .append) (xs := #[.tmp 16, .tmp 18]) rfl ?_); at_builtin; refine Kd.R_append (Kd.int .i64) (w0 := w) w.heap.size rfl (.tmp 16) (.tmp 18) 22 2 (.int .i64 0) 8 rfl Tryd.underlying22 info2 rfl (by decide) (by omega) u3 x3_1 x4_1 [.int .i64 x4_1] (fun _ => True) (fun _ => False) rfl rfl ?aP (fun _ hk => hk.elim) ?aF ?aO ?aB ?aS ?aL ?_; (case aP => exact rfl); (case aB => exact (zT HB.out GE188.out)); (case aF => exact (fun _ _ => trivial)); (case aO => exact (zP HO_3.out)); (case aS => exact (kP (zT HB.out GE188.out))); (case aL => have := LMc9.out; omega); intro v195 w12 ho hb hg hat; rw [← Ny194.out] at ho; replace BK188 := zA (blk_grown (g := gb188) (o := .cells #[.int .i64 a0_0, .slice A0_1 l0_1.length c0_1] 29 (0, 0)) (zR BK188.out) hg (Kd.R_ne HO_3.out BK188.out (by decide))); replace HB := zA (hb); have HO196 := zA (ho); clear HO_3; clear ho hb hg hat))
      go_roundg k1
      case measure => have := HK1.out; omega
      case rel => exact ⟨(y194), (wrap64 (x4_1 + 1)), zs, H', ⟨by have := HK1.out; omega⟩, ⟨zP HO196.out⟩, ⟨zR BK188.out⟩, ⟨zT HB.out GE188.out⟩⟩
     rw [if_neg c9] at H
     exact absurd H (by simp)
    replace c8 := Bool.eq_false_iff.mpr c8
    subst c8
    rw [if_neg (show ¬ (false = true) by decide)] at H
    have H' := zA H
    clear H
    obtain ⟨hcz13_0, hcz13_1, hfz13_0, hfz13_1⟩ := zB3 BK188.out
    go_wp2_with (first | (refine zO (some 9) Tryd.func33 #[.int .i64 a0_0] ?_; (with_reducible refine (spec_l01Full.calls a0_0 t192 _ A5.out).mono ?_); rintro e w' ⟨rfl, ⟨nd, rfl⟩⟩; refine ⟨_, rfl, ?_⟩) | (refine zO (some 15) Tryd.func56 #[.agg #[.int .i64 a0_0, .slice A0_1 l0_1.length c0_1], .int .i64 x4_1] ?_; (with_reducible refine (spec_l02Step.calls k1 a0_0 _ _ l0_1 x4_1 false _ ?side1 ?side2 A7.out).mono ?_); (case side1 => exact zS (kO HR0_1.out (zT HB.out GE188.out))); (case side2 => exact HC0_1.out); rintro e w14 ⟨rfl, hb⟩; refine ⟨_, rfl, ?_⟩; replace HO_3 := zA (kL (zP HO_3.out) hb); replace BK188 := zA (zB1 BK188.out hb); replace HB := zA (kQ (zT HB.out GE188.out) hb); (try clear hb)))
    go_roundg k1
    case measure => have := HK1.out; omega
    case rel => exact ⟨(x3_1), (wrap64 (x4_1 + 1)), zs, H', ⟨by have := HK1.out; omega⟩, ⟨zP HO_3.out⟩, ⟨zR BK188.out⟩, ⟨zT HB.out GE188.out⟩⟩
   rw [if_neg c6] at H
   have c6b0 : decide (x4_1 ≤ t192) = false := decide_eq_false c6
   clear c6
   obtain rfl := Option.some.inj H
   obtain ⟨hcz15_0, hcz15_1, hfz15_0, hfz15_1⟩ := zB3 BK188.out
   go_wp2_with (first | (refine zO (some 9) Tryd.func33 #[.int .i64 a0_0] ?_; (with_reducible refine (spec_l01Full.calls a0_0 t192 _ A5.out).mono ?_); rintro e w' ⟨rfl, ⟨nd, rfl⟩⟩; refine ⟨_, rfl, ?_⟩))
   go_ret
   exact ⟨_, zr, zP HO_3.out, zT HB.out GE188.out⟩

/-! ### spec_l01Own: function 46 -/
def spec_l01Own.f (l0 : List Int) : Option (List Int) := (some (([] : List Int) : List Int)).bind fun y197 => (if y197.length + l0.length < 17592186044416 then (some (y197 ++ l0)) else (none))
set_option maxHeartbeats 8000000 in
set_option maxRecDepth 100000 in
theorem spec_l01Own.calls (A0 : Option Addr) (c0 : Nat) (l0 : List Int) (r : List Int) (w : World) (hr0 : Kd.C (Kd.int .i64) w A0 l0.length l0) (hc0 : l0.length ≤ c0) (h : spec_l01Own.f l0 = some r) :
  Calls Tryd.prog 46 #[.slice A0 l0.length c0] w fun e w' => ∃ v0_ : Value, e = .returned (v0_) ∧ Kd.R (Kd.int .i64) 2 w' w.heap.size (fun _ => True) v0_ r ∧ Below w.heap.size w w' := by
 have HR0 := zA hr0
 have HC0 := zA hc0
 clear hr0 hc0
 have HB := zA (kW w.heap.size w)
 have H := h
 unfold spec_l01Own.f at H
 clear h
 obtain ⟨y197, hy197⟩ : ∃ y_ : List Int, y_ = (([] : List Int)) := ⟨_, rfl⟩
 replace H : (if y197.length + l0.length < 17592186044416 then (some (y197 ++ l0)) else (none)) = some r := zy hy197 H
 have Ny197 := zA hy197
 clear hy197
 by_cases c2 : y197.length + l0.length < 17592186044416
 ·rw [if_pos c2] at H
  have LMc2 := zA c2
  clear c2
  obtain ⟨y200, hy200⟩ : ∃ y_ : List Int, y_ = (y197 ++ l0) := ⟨_, rfl⟩
  replace H : (some y200) = some r := zy hy200 H
  have Ny200 := zA hy200
  clear hy200
  obtain rfl := Option.some.inj H
  go_enter Tryd.func46, Tryd.ntmps46
  go_wp2_with (first | ((with_reducible refine kS (N := 3) rfl ?_); refine Kd.R_lit (Kd.int .i64) _ 2 ?hg (N := 3) ?hd (xs := ([] : List Int)) (inner := []) (ok := fun _ => True) (okp := fun _ => True) ?hr ?hp (fun _ hk => hk) trivial (kW _ _) (Nat.le_refl _) (by simp) ?_; (case hd => rfl); (case hg => rfl); (case hr => first | (go_simp; done) | (go_simp; rfl)); (case hp => exact (Reps.none _ _)); intro v198 w3 ho4 hb hg_ hnew_; clear hg_ hnew_; (first | rw [← Ny197.out] at ho4 | (simp only [Int.reduceToNat] at ho4; rw [← Ny197.out] at ho4)); have HO199 := zA (kI ho4 (kP (zQ HB.out))); replace HB := zA (kQ (zQ HB.out) hb); clear hb ho4) | ((with_reducible refine gate_builtin (b := .append) (xs := #[.tmp 3, .tmp 4]) rfl ?_); at_builtin; refine Kd.R_append_rows (Kd.int .i64) (w0 := w) w.heap.size rfl (.tmp 3) (.tmp 4) 22 2 (.int .i64 0) 8 rfl Tryd.underlying22 info2 rfl (by decide) (by omega) v198 y197 l0 _ _ _ (fun _ => True) (fun _ => False) rfl rfl ?aO ?aR (fun _ _ h => h) (fun _ h => h.elim) ?aF ?aB ?aS ?aL ?_; (case aR => exact zS (kO HR0.out HB.out)); (case aB => exact (zQ HB.out)); (case aF => exact (fun _ _ => trivial)); (case aO => exact (zP HO199.out)); (case aS => exact (kP (zQ HB.out))); (case aL => have := LMc2.out; omega); intro v201 w5 ho hb hg hat; rw [← Ny200.out] at ho; replace HB := zA (hb); have HO202 := zA (ho); clear HO199; clear ho hb hg hat))
  go_ret
  exact ⟨_, zr, zP HO202.out, zQ HB.out⟩
 rw [if_neg c2] at H
 exact absurd H (by simp)

/-! ### spec_l01Bits: function 57 -/
def spec_l01Bits.l0 : Nat → Int → Int → Option (Int)
 | 0, _, _ => none
 | k + 1, x0, x3 => if x0 > 0 then (spec_l01Bits.l0 k (wrap64 (Int.tdiv x0 2)) (wrap64 (x3 + (Int.tmod x0 2)))) else (some x3)
def spec_l01Bits.f (k : Nat) (a0 : Int) : Option (Int) := spec_l01Bits.l0 k a0 0

set_option maxHeartbeats 8000000 in
set_option maxRecDepth 100000 in
theorem spec_l01Bits.calls (k : Nat) (a0 : Int) (r : Int) (w : World) (h : spec_l01Bits.f k a0 = some r) :
  Calls Tryd.prog 57 #[.int .i64 a0] w fun e w' => e = .returned (.int .i64 r) ∧ Drawn0 w w' := by
 have H := h
 unfold spec_l01Bits.f at H
 clear h
 have H' := zA H
 clear H
 go_enter Tryd.func57, Tryd.ntmps57
 go_wp2
 go_loopg [0, 3] k (fun kq v0 v3 w' => ∃ (x0_1 : Int) (x3_1 : Int), v0 = .int .i64 x0_1 ∧ v3 = .int .i64 x3_1 ∧ Aside0 (spec_l01Bits.l0 kq x0_1 x3_1 = some r) ∧ Aside0 (kq ≤ k) ∧ Drawn0 w w')
 case atStart => exact ⟨(a0), (0), zs, zs, H', ⟨Nat.le_refl _⟩, by repeat (first | exact Drawn0.refl _ | apply Drawn0.step)⟩
 case round =>
  clear H'
  obtain ⟨x0_1, x3_1, rfl, rfl, HA, HK1, ⟨m1, rfl⟩⟩ := hrel
  cases gk with
  | zero => exact absurd HA.out (by simp [spec_l01Bits.l0])
  | succ k1 =>
   have H := HA.out
   clear HA
   simp only [spec_l01Bits.l0] at H
   by_cases c2 : x0_1 > 0
   ·rw [if_pos c2] at H
    have c2b0 : decide (0 < x0_1) = true := decide_eq_true c2
    clear c2
    have H' := zA H
    clear H
    go_wp2
    go_roundg k1
    case measure => have := HK1.out; omega
    case rel => exact ⟨(wrap64 (Int.tdiv x0_1 2)), (wrap64 (x3_1 + (Int.tmod x0_1 2))), zs, zs, H', ⟨by have := HK1.out; omega⟩, by repeat (first | exact Drawn0.refl _ | apply Drawn0.step)⟩
   rw [if_neg c2] at H
   have c2b0 : decide (0 < x0_1) = false := decide_eq_false c2
   clear c2
   obtain rfl := Option.some.inj H
   go_wp2
   go_ret
   exact ⟨zs, by repeat (first | exact Drawn0.refl _ | apply Drawn0.step)⟩

/-! ### spec_l06Reach: function 58 -/
def spec_l06Reach.l0 : Nat → Int → Int → Int → Int → List Int → Option (Int)
 | 0, _, _, _, _, _ => none
 | k + 1, x1, x5, x6, x204000, x204001 => if x6 < x204000 then ((spec_l01Bit.f x1 x6).bind fun t204 => (if t204 = true then (if 0 ≤ x6 then (if x6 < (x204001.length : Int) then (spec_l06Reach.l0 k x1 (Go.bits .or .i64 x5 (rd x204001 x6)) (wrap64 (x6 + 1)) x204000 x204001) else (none)) else (none)) else (spec_l06Reach.l0 k x1 x5 (wrap64 (x6 + 1)) x204000 x204001))) else (some x5)
def spec_l06Reach.f (k : Nat) (a0_0 : Int) (l0_1 : List Int) (a1 : Int) : Option (Int) := spec_l06Reach.l0 k a1 0 0 a0_0 l0_1

set_option maxHeartbeats 8000000 in
set_option maxRecDepth 100000 in
theorem spec_l06Reach.calls (k : Nat) (a0_0 : Int) (A0_1 : Option Addr) (c0_1 : Nat) (l0_1 : List Int) (a1 : Int) (r : Int) (w : World) (hr0_1 : Kd.C (Kd.int .i64) w A0_1 l0_1.length l0_1) (hc0_1 : l0_1.length ≤ c0_1) (h : spec_l06Reach.f k a0_0 l0_1 a1 = some r) :
  Calls Tryd.prog 58 #[.agg #[.int .i64 a0_0, .slice A0_1 l0_1.length c0_1], .int .i64 a1] w fun e w' => e = .returned (.int .i64 r) ∧ Below w.heap.size w w' := by
 have hu29 := Tryd.underlying29
 have HR0_1 := zA hr0_1
 have HC0_1 := zA hc0_1
 clear hr0_1 hc0_1
 have HB := zA (kW w.heap.size w)
 have H := h
 unfold spec_l06Reach.f at H
 clear h
 have H' := zA H
 clear H
 go_enter Tryd.func58, Tryd.ntmps58
 go_wp2_with (first | (refine zBE 2 #[.int .i64 a0_0, .slice A0_1 l0_1.length c0_1] 29 ?_; intro gb203 hg w3 hbox hb; have BK203 := zA (hbox); have GW203 := zA (zBH hg HB.out); have GE203 := zA (zBH hg HB.out); replace HB := zA (kQ (zQ HB.out) hb); clear hb hbox hg))
 go_loopg [5, 6] k (fun kq v5 v6 w' => ∃ (x5_1 : Int) (x6_1 : Int), v5 = .int .i64 x5_1 ∧ v6 = .int .i64 x6_1 ∧ Aside0 (spec_l06Reach.l0 kq a1 x5_1 x6_1 a0_0 l0_1 = some r) ∧ Aside0 (kq ≤ k) ∧ Aside0 (w'.heap[gb203]? = some (.cells #[.int .i64 a0_0, (.slice A0_1 l0_1.length c0_1)] 29 (0, 0))) ∧ Aside0 (Below w.heap.size w w'))
 case atStart => exact ⟨(0), (0), zs, zs, H', ⟨Nat.le_refl _⟩, ⟨zR BK203.out⟩, ⟨zT HB.out GE203.out⟩⟩
 case round =>
  clear H'
  obtain ⟨x5_1, x6_1, rfl, rfl, HA, HK1, BK203, HB⟩ := hrel
  cases gk with
  | zero => exact absurd HA.out (by simp [spec_l06Reach.l0])
  | succ k1 =>
   have H := HA.out
   clear HA
   simp only [spec_l06Reach.l0] at H
   by_cases c4 : x6_1 < a0_0
   ·rw [if_pos c4] at H
    have c4b0 : decide (x6_1 < a0_0) = true := decide_eq_true c4
    clear c4
    obtain ⟨t204, A5, H⟩ := zb H
    try dsimp only at H
    by_cases c6 : t204 = true
    ·subst c6
     rw [if_pos rfl] at H
     by_cases c7 : 0 ≤ x6_1
     ·rw [if_pos c7] at H
      have c7b0 : decide (0 ≤ x6_1) = true := decide_eq_true c7
      clear c7
      by_cases c8 : x6_1 < (l0_1.length : Int)
      ·rw [if_pos c8] at H
       have c8b0 : decide (x6_1 < (l0_1.length : Int)) = true := decide_eq_true c8
       clear c8
       have H' := zA H
       clear H
       obtain ⟨hcz9_0, hcz9_1, hfz9_0, hfz9_1⟩ := zB3 BK203.out
       go_wp2_with (first | (refine zO (some 15) Tryd.func47 #[.int .i64 a1, .int .i64 x6_1] ?_; (with_reducible refine (spec_l01Bit.calls a1 x6_1 true _ A5.out).mono ?_); rintro e w' ⟨rfl, ⟨nd, rfl⟩⟩; refine ⟨_, rfl, ?_⟩; have p205 : 0 ≤ (x6_1 : Int) := zd; have q205 : x6_1 < (l0_1.length : Int) := zd; obtain ⟨ad205, e205, hx205_0⟩ := Kd.at_int HR0_1.out x6_1 p205 q205; cases e205; replace hx205_0 := (HB.out.cell (jG w _ hx205_0)).trans hx205_0; replace p205 := eq_true p205; replace q205 := eq_true q205))
       go_roundg k1
       case measure => have := HK1.out; omega
       case rel => exact ⟨(Go.bits .or .i64 x5_1 (rd l0_1 x6_1)), (wrap64 (x6_1 + 1)), zs, zs, H', ⟨by have := HK1.out; omega⟩, ⟨zR BK203.out⟩, ⟨zT HB.out GE203.out⟩⟩
      rw [if_neg c8] at H
      exact absurd H (by simp)
     rw [if_neg c7] at H
     exact absurd H (by simp)
    replace c6 := Bool.eq_false_iff.mpr c6
    subst c6
    rw [if_neg (show ¬ (false = true) by decide)] at H
    have H' := zA H
    clear H
    obtain ⟨hcz10_0, hcz10_1, hfz10_0, hfz10_1⟩ := zB3 BK203.out
    go_wp2_with (first | (refine zO (some 15) Tryd.func47 #[.int .i64 a1, .int .i64 x6_1] ?_; (with_reducible refine (spec_l01Bit.calls a1 x6_1 false _ A5.out).mono ?_); rintro e w' ⟨rfl, ⟨nd, rfl⟩⟩; refine ⟨_, rfl, ?_⟩))
    go_roundg k1
    case measure => have := HK1.out; omega
    case rel => exact ⟨(x5_1), (wrap64 (x6_1 + 1)), zs, zs, H', ⟨by have := HK1.out; omega⟩, ⟨zR BK203.out⟩, ⟨zT HB.out GE203.out⟩⟩
   rw [if_neg c4] at H
   have c4b0 : decide (x6_1 < a0_0) = false := decide_eq_false c4
   clear c4
   obtain rfl := Option.some.inj H
   obtain ⟨hcz11_0, hcz11_1, hfz11_0, hfz11_1⟩ := zB3 BK203.out
   go_wp2
   go_ret
   exact ⟨zr, zT HB.out GE203.out⟩

end Go.Proofs.YtemdfjdmokbcoaaDoor.PAll
