-- Printed by a program of the session (wip/tools/pgen.py) out of the translation. Not trusted: Lean checks it.
import Derived.Test.YtcboobfmenonhaaDoorPAllx0
import Derived.Test.YtcboobfmenonhaaDoorPAllx1
import Derived.Test.YtcboobfmenonhaaDoorPAllx2
import Derived.Test.YtcboobfmenonhaaDoorPAllx3
import Derived.Test.YtcboobfmenonhaaDoorPAllx4
namespace Go.Proofs.YtcboobfmenonhaaDoor.PAll
open Go.RowKit Go.Proofs.YtcboobfmenonhaaDoor.T Go.Proofs.YtcboobfmenonhaaDoorW.PrintWords Go.Proofs.YtcboobfmenonhaaDoorW.PrintLast Go.Proofs.YtcboobfmenonhaaDoorW.PrintMore
attribute [local go_sem] max2_int min2_int max_two min_two max_three min_three max_four min_four   -- for this text's walks alone
set_option linter.unusedVariables false
set_option linter.unusedSimpArgs false

/-! ### impl_components: function 104 -/
mutual
def impl_components.l0 : Nat → List Int → List Int → Int → Int → Option (List Int)
 | 0, _, _, _, _ => none
 | k + 1, x3, x12, x13, x14 => if x14 < x13 then (if 0 ≤ x14 then (if x14 < (x12.length : Int) then (if x14 < (x3.length : Int) then (impl_components.l0 k (x3.set (x14 : Int).toNat (Go.bits .or .i64 (rd x3 x14) (rd x12 x14))) x12 x13 (wrap64 (x14 + 1))) else (none)) else (none)) else (none)) else ((impl_closure.f k x3).bind fun t433 => (impl_components.l1 k (([] : List Int)) 0 t433 (t433.length : Int) 0))
def impl_components.l1 : Nat → List Int → Int → List Int → Int → Int → Option (List Int)
 | 0, _, _, _, _, _ => none
 | k + 1, x6, x7, x29, x30, x31 => if x31 < x30 then (if 0 ≤ x31 then (if x31 < (x29.length : Int) then ((impl_has.f x7 x31).bind fun t437 => (if t437 = true then (impl_components.l1 k x6 x7 x29 x30 (wrap64 (x31 + 1))) else (if x6.length < 17592186044416 then (impl_components.l1 k (x6 ++ [rd x29 x31]) (Go.bits .or .i64 x7 (rd x29 x31)) x29 x30 (wrap64 (x31 + 1))) else (none)))) else (none)) else (none)) else (some x6)
end
def impl_components.f (k : Nat) (l0 : List Int) : Option (List Int) := (impl_converse.f k l0).bind fun t424 => (impl_components.l0 k t424 l0 (l0.length : Int) 0)

set_option maxHeartbeats 8000000 in
set_option maxRecDepth 100000 in
theorem impl_components.calls (k : Nat) (A0 : Option Addr) (c0 : Nat) (l0 : List Int) (r : List Int) (w : World) (hr0 : Kd.C (Kd.int .i64) w A0 l0.length l0) (hc0 : l0.length ≤ c0) (hT : TabW w) (h : impl_components.f k l0 = some r) :
  Calls Tryd.prog 104 #[.slice A0 l0.length c0] w fun e w' => ∃ v0_ : Value, e = .returned (v0_) ∧ Kd.R (Kd.int .i64) 2 w' w.heap.size (fun _ => True) v0_ r ∧ Below w.heap.size w w' := by
 have HT := zA hT
 clear hT
 have HR0 := zA hr0
 have HC0 := zA hc0
 clear hr0 hc0
 have HB := zA (kW w.heap.size w)
 have H := h
 unfold impl_components.f at H
 clear h
 obtain ⟨t424, A2, H⟩ := zb H
 try dsimp only at H
 have H' := zA H
 clear H
 go_enter Tryd.func104, Tryd.ntmps104
 go_wp2_with (first | (refine zO (some 11) Tryd.func76 #[.slice A0 l0.length c0] ?_; (with_reducible refine (impl_converse.calls k _ _ l0 t424 _ ?side1 ?side2 ?side3 A2.out).mono ?_); (case side1 => exact zS HR0.out); (case side2 => exact HC0.out); (case side3 => exact TabW.below HT.out (zQ HB.out)); rintro e w3 ⟨v425, rfl, ho0, hb⟩; refine ⟨_, rfl, ?_⟩; have HO426 := zA (kI ho0 (kP (zQ HB.out))); replace HB := zA (kQ (zQ HB.out) hb); (try clear hb); (try clear ho0)))
 go_loopg [14] k (fun kq v14 w' => ∃ (x3_1 : List Int) (x14_1 : Int), v14 = .int .i64 x14_1 ∧ Aside0 (impl_components.l0 kq x3_1 l0 (l0.length : Int) x14_1 = some r) ∧ Aside0 (kq ≤ k) ∧ Aside0 (Kd.R (Kd.int .i64) 2 w' w.heap.size (fun _ => True) v425 x3_1) ∧ Aside0 (Below w.heap.size w w'))
 case atStart => exact ⟨(t424), (0), zs, H', ⟨Nat.le_refl _⟩, ⟨zP HO426.out⟩, ⟨zQ HB.out⟩⟩
 case round =>
  clear H'
  try clear c1
  obtain ⟨x3_1, x14_1, rfl, HA, HK1, HO_3, HB⟩ := hrel
  cases gk with
  | zero => exact absurd HA.out (by simp [impl_components.l0])
  | succ k1 =>
   have H := HA.out
   clear HA
   simp only [impl_components.l0] at H
   by_cases c4 : x14_1 < (l0.length : Int)
   ·rw [if_pos c4] at H
    have c4b0 : decide (x14_1 < (l0.length : Int)) = true := decide_eq_true c4
    clear c4
    by_cases c5 : 0 ≤ x14_1
    ·rw [if_pos c5] at H
     have c5b0 : decide (0 ≤ x14_1) = true := decide_eq_true c5
     clear c5
     by_cases c6 : x14_1 < (l0.length : Int)
     ·rw [if_pos c6] at H
      have c6b0 : decide (x14_1 < (l0.length : Int)) = true := decide_eq_true c6
      clear c6
      by_cases c7 : x14_1 < (x3_1.length : Int)
      ·rw [if_pos c7] at H
       have c7b0 : decide (x14_1 < (x3_1.length : Int)) = true := decide_eq_true c7
       clear c7
       obtain ⟨y429, hy429⟩ : ∃ y_ : List Int, y_ = (x3_1.set (x14_1 : Int).toNat (Go.bits .or .i64 (rd x3_1 x14_1) (rd l0 x14_1))) := ⟨_, rfl⟩
       replace H : (impl_components.l0 k1 y429 l0 (l0.length : Int) (wrap64 (x14_1 + 1))) = some r := zy hy429 H
       have Ny429 := zA hy429
       clear hy429
       have H' := zA H
       clear H
       have p427 : 0 ≤ (x14_1 : Int) := zd
       have q427 : x14_1 < (l0.length : Int) := zd
       obtain ⟨ad427, e427, hx427_0⟩ := Kd.at_int HR0.out x14_1 p427 q427
       cases e427
       replace hx427_0 := (HB.out.cell (jG w _ hx427_0)).trans hx427_0
       replace p427 := eq_true p427
       replace q427 := eq_true q427
       obtain ⟨Ao9, co9, eo9⟩ := kM HO_3.out
       subst eo9
       have p428 : 0 ≤ (x14_1 : Int) := zd
       have q428 : x14_1 < (x3_1.length : Int) := zd
       obtain ⟨ad428, e428, hx428_0⟩ := Kd.at_int (kB HO_3.out).2.2 x14_1 p428 q428
       cases e428
       replace p428 := eq_true p428
       replace q428 := eq_true q428
       have p8 : 0 ≤ (x14_1 : Int) := zd
       have q8 : (x14_1 : Int) < ((x3_1.length : Int) : Int) := zd
       obtain ⟨go8, co8, eo8, gb8, gl8, cl8, HG8⟩ := Kd.R_form HO_3.out (by omega)
       (first | cases eo8 | (injection eo8 with ea_ en_ ec_; (first | subst ea_ | (injection ea_ with ea_; subst ea_)); subst ec_; clear en_))
       have GB8 := zA gb8
       have GG8 := zA HG8
       clear gb8 gl8 HG8
       (first | simp only [add_plain] at hx428_0 | skip)
       obtain ⟨hx8_0, hf8_0⟩ := Kd.R_celln 0 HO_3.out (x14_1 : Int) p8 q8
       replace p8 := eq_true p8
       replace q8 := eq_true q8
       have HP10 := Kd.R_putg HO_3.out (x14_1 : Int) (Go.bits .or .i64 (rd x3_1 x14_1) (rd l0 x14_1))
       go_wp2_with (first | ((with_reducible refine gate_store (t := 2) (p := 25) rfl ?_); refine store_event (t := 2) (p := 25) (v := ?vo_w11) (w1 := (wr.setCell ⟨go8, (x14_1 : Int).toNat, none⟩ (.int .i64 (Go.bits .or .i64 (rd x3_1 x14_1) (rd l0 x14_1))))) ?hg ?ho ?hn ?hr ?_; (case ho => rfl); (case hg => rfl); (case hn => rfl); (case hr => first | (go_simp; done) | (go_simp; rfl)); intro w11 hw; have hg : wr.grownBy w11 (some go8) := (by rw [hw]; exact HP10.2); have hp_ : Kd.R (Kd.int .i64) 2 w11 w.heap.size (fun _ => True) (.slice (some ⟨go8, 0, none⟩) x3_1.length co9) y429 := (by rw [hw, Ny429.out]; exact HP10.1); clear HP10; replace HO_3 := zA (hp_); replace HB := zA ((by rw [hw]; exact zE (HB.out) GB8.out : Below w.heap.size w w11)); clear hg hw hp_))
       go_roundg k1
       case measure => have := HK1.out; omega
       case rel => exact ⟨(y429), (wrap64 (x14_1 + 1)), zs, H', ⟨by have := HK1.out; omega⟩, ⟨zP HO_3.out⟩, ⟨zQ HB.out⟩⟩
      rw [if_neg c7] at H
      exact absurd H (by simp)
     rw [if_neg c6] at H
     exact absurd H (by simp)
    rw [if_neg c5] at H
    exact absurd H (by simp)
   rw [if_neg c4] at H
   have c4b0 : decide (x14_1 < (l0.length : Int)) = false := decide_eq_false c4
   clear c4
   obtain ⟨y430, hy430⟩ : ∃ y_ : List Int, y_ = (([] : List Int)) := ⟨_, rfl⟩
   replace H : ((impl_closure.f k1 x3_1).bind fun t433 => (impl_components.l1 k1 y430 0 t433 (t433.length : Int) 0)) = some r := zy hy430 H
   have Ny430 := zA hy430
   clear hy430
   obtain ⟨t433, A12, H⟩ := zb H
   try dsimp only at H
   have H' := zA H
   clear H
   go_wp2_with (first | ((with_reducible refine kS (N := 27) rfl ?_); refine Kd.R_lit (Kd.int .i64) _ 2 ?hg (N := 27) ?hd (xs := ([] : List Int)) (inner := []) (ok := fun _ => True) (okp := fun _ => True) ?hr ?hp (fun _ hk => hk) trivial (kW _ _) (Nat.le_refl _) (by simp) ?_; (case hd => rfl); (case hg => rfl); (case hr => first | (go_simp; done) | (go_simp; rfl)); (case hp => exact (Reps.none _ _)); intro v431 w13 ho14 hb hg_ hnew_; clear hg_ hnew_; (first | rw [← Ny430.out] at ho14 | (simp only [Int.reduceToNat] at ho14; rw [← Ny430.out] at ho14)); have HO432 := zA (kI (kF ho14 (kH (zP HO_3.out))) (kP (zQ HB.out))); replace HO_3 := zA (kE (zP HO_3.out) (kC ho14) hb); replace HB := zA (kQ (zQ HB.out) hb); clear hb ho14; obtain ⟨Ao15, co15, eo15⟩ := kM HO_3.out; subst eo15) | (refine zO (some 29) Tryd.func122 #[.slice Ao15 x3_1.length co15] ?_; (with_reducible refine (impl_closure.calls k1 _ _ x3_1 t433 _ ?side1 ?side2 A12.out).mono ?_); (case side1 => exact zS (kB HO_3.out).2.2); (case side2 => exact (kB HO_3.out).2.1); rintro e w16 ⟨v434, rfl, ho0, hb⟩; refine ⟨_, rfl, ?_⟩; have HO435 := zA (kI (kF (kF ho0 (kH (zP HO_3.out))) (kH (zP HO432.out))) (kP (zQ HB.out))); replace HO_3 := zA (kE (zP HO_3.out) (kC ho0) hb); replace HO432 := zA (kE (zP HO432.out) (kC ho0) hb); replace HB := zA (kQ (zQ HB.out) hb); (try clear hb); (try clear ho0); obtain ⟨Ao17, co17, eo17⟩ := kM HO435.out; subst eo17))
   go_loopg [6, 7, 31] k1 (fun kq v6 v7 v31 w' => ∃ (x6_2 : List Int) (x7_2 : Int) (x31_2 : Int), v7 = .int .i64 x7_2 ∧ v31 = .int .i64 x31_2 ∧ Aside0 (impl_components.l1 kq x6_2 x7_2 t433 (t433.length : Int) x31_2 = some r) ∧ Aside0 (kq ≤ k1) ∧ Aside0 (Kd.R (Kd.int .i64) 2 w' w.heap.size (fun k_ => some k_ ≠ ((.slice Ao17 t433.length co17) : Value).ownBlock) v6 x6_2) ∧ Aside0 (Kd.R (Kd.int .i64) 2 w' w.heap.size (fun k_ => some k_ ≠ (v6 : Value).ownBlock) (.slice Ao17 t433.length co17) t433) ∧ Aside0 (Below w.heap.size w w'))
   case atStart => exact ⟨(y430), (0), (0), zs, zs, H', ⟨Nat.le_refl _⟩, ⟨zPM HO432.out (fun _ hk => hk.2)⟩, ⟨zPM HO435.out (fun _ hk => hk.2)⟩, ⟨zQ HB.out⟩⟩
   case round =>
    clear H'
    try clear c1
    try clear c4
    try clear hx4
    try clear c5
    try clear c6
    try clear c7
    try clear hx8
    try clear hf8
    try clear c10
    try clear c12
    try clear hx427_0
    try clear hx428_0
    try clear hx8_0
    obtain ⟨x6_2, x7_2, x31_2, rfl, rfl, HA, HK2, HO_6, HO_29, HB⟩ := hrel
    cases gk with
    | zero => exact absurd HA.out (by simp [impl_components.l1])
    | succ k2 =>
     have H := HA.out
     clear HA
     simp only [impl_components.l1] at H
     by_cases c18 : x31_2 < (t433.length : Int)
     ·rw [if_pos c18] at H
      have c18b0 : decide (x31_2 < (t433.length : Int)) = true := decide_eq_true c18
      clear c18
      by_cases c19 : 0 ≤ x31_2
      ·rw [if_pos c19] at H
       have c19b0 : decide (0 ≤ x31_2) = true := decide_eq_true c19
       clear c19
       by_cases c20 : x31_2 < (t433.length : Int)
       ·rw [if_pos c20] at H
        have c20b0 : decide (x31_2 < (t433.length : Int)) = true := decide_eq_true c20
        clear c20
        obtain ⟨t437, A21, H⟩ := zb H
        try dsimp only at H
        by_cases c22 : t437 = true
        ·subst c22
         rw [if_pos rfl] at H
         have H' := zA H
         clear H
         have p436 : 0 ≤ (x31_2 : Int) := zd
         have q436 : x31_2 < (t433.length : Int) := zd
         obtain ⟨ad436, e436, hx436_0⟩ := Kd.at_int (kB HO_29.out).2.2 x31_2 p436 q436
         cases e436
         replace p436 := eq_true p436
         replace q436 := eq_true q436
         go_wp2_with (first | (refine zO (some 38) Tryd.func77 #[.int .i64 x7_2, .int .i64 x31_2] ?_; (with_reducible refine (impl_has.calls x7_2 x31_2 true _ A21.out).mono ?_); rintro e w' ⟨rfl, ⟨nd, rfl⟩⟩; refine ⟨_, rfl, ?_⟩))
         go_roundg k2
         case measure => have := HK1.out; have := HK2.out; omega
         case rel => exact ⟨(x6_2), (x7_2), (wrap64 (x31_2 + 1)), zs, zs, H', ⟨by have := HK1.out; have := HK2.out; omega⟩, ⟨zP HO_6.out⟩, ⟨zP HO_29.out⟩, ⟨zQ HB.out⟩⟩
        replace c22 := Bool.eq_false_iff.mpr c22
        subst c22
        rw [if_neg (show ¬ (false = true) by decide)] at H
        by_cases c23 : x6_2.length < 17592186044416
        ·rw [if_pos c23] at H
         have LMc23 := zA c23
         clear c23
         obtain ⟨y438, hy438⟩ : ∃ y_ : List Int, y_ = (x6_2 ++ [rd t433 x31_2]) := ⟨_, rfl⟩
         replace H : (impl_components.l1 k2 y438 (Go.bits .or .i64 x7_2 (rd t433 x31_2)) t433 (t433.length : Int) (wrap64 (x31_2 + 1))) = some r := zy hy438 H
         have Ny438 := zA hy438
         clear hy438
         have H' := zA H
         clear H
         have p436 : 0 ≤ (x31_2 : Int) := zd
         have q436 : x31_2 < (t433.length : Int) := zd
         obtain ⟨ad436, e436, hx436_0⟩ := Kd.at_int (kB HO_29.out).2.2 x31_2 p436 q436
         cases e436
         replace p436 := eq_true p436
         replace q436 := eq_true q436
         go_wp2_with (first | (refine zO (some 38) Tryd.func77 #[.int .i64 x7_2, .int .i64 x31_2] ?_; (with_reducible refine (impl_has.calls x7_2 x31_2 false _ A21.out).mono ?_); rintro e w' ⟨rfl, ⟨nd, rfl⟩⟩; refine ⟨_, rfl, ?_⟩) | ((with_reducible refine gate_builtin (b := .append) (xs := #[.tmp 40, .tmp 42]) rfl ?_); at_builtin; refine Kd.R_append (Kd.int .i64) (w0 := w) w.heap.size rfl (.tmp 40) (.tmp 42) 24 2 (.int .i64 0) 8 rfl Tryd.underlying24 info2 rfl (by decide) (by omega) u6 x6_2 (rd t433 x31_2) [.int .i64 (rd t433 x31_2)] (fun k_ => some k_ ≠ (.slice (some ad436) t433.length co17 : Value).ownBlock) (fun _ => False) rfl rfl ?aP (fun _ hk => hk.elim) ?aF ?aO ?aB ?aS ?aL ?_; (case aP => exact rfl); (case aB => exact (zQ HB.out)); (case aF => exact (fun k_ hk => jF (kH (zP HO_29.out)) k_ hk)); (case aO => exact (zP HO_6.out)); (case aS => exact (kP (zQ HB.out))); (case aL => have := LMc23.out; omega); intro v439 w24 ho hb hg hat; rw [← Ny438.out] at ho; replace HO_29 := zA (Kd.R_after (ok := (fun _ => True)) (by (with_reducible repeat (first | apply zF | apply zG | apply zH)); exact kA HO_29.out (fun _ hk => ⟨trivial, hk⟩)) hg hat); replace HB := zA (hb); have HO440 := zA (ho); clear HO_6; clear ho hb hg hat))
         go_roundg k2
         case measure => have := HK1.out; have := HK2.out; omega
         case rel => exact ⟨(y438), (Go.bits .or .i64 x7_2 (rd t433 x31_2)), (wrap64 (x31_2 + 1)), zs, zs, H', ⟨by have := HK1.out; have := HK2.out; omega⟩, ⟨zP HO440.out⟩, ⟨zPM HO_29.out (fun _ hk => hk.2)⟩, ⟨zQ HB.out⟩⟩
        rw [if_neg c23] at H
        exact absurd H (by simp)
       rw [if_neg c20] at H
       exact absurd H (by simp)
      rw [if_neg c19] at H
      exact absurd H (by simp)
     rw [if_neg c18] at H
     have c18b0 : decide (x31_2 < (t433.length : Int)) = false := decide_eq_false c18
     clear c18
     obtain rfl := Option.some.inj H
     go_wp2
     go_ret
     exact ⟨_, zr, by (with_reducible repeat (first | apply zF | apply zG | apply zH)); exact kA HO_6.out (fun _ hk => trivial), zQ HB.out⟩

/-! ### impl_projected: function 105 -/
def impl_projected.l0 : Nat → Int → List Int → List Int → Int → Int → Option (List Int)
 | 0, _, _, _, _, _ => none
 | k + 1, x1, x5, x9, x10, x11 => if x11 < x10 then (if 0 ≤ x11 then (if x11 < (x9.length : Int) then ((impl_has.f x1 (rd x9 x11)).bind fun t445 => (if t445 = true then (if x5.length < 17592186044416 then (impl_projected.l0 k x1 (x5 ++ [rd x9 x11]) x9 x10 (wrap64 (x11 + 1))) else (none)) else (impl_projected.l0 k x1 x5 x9 x10 (wrap64 (x11 + 1))))) else (none)) else (none)) else (some x5)
def impl_projected.f (k : Nat) (l0 : List Int) (a1 : Int) : Option (List Int) := impl_projected.l0 k a1 (([] : List Int)) l0 (l0.length : Int) 0

set_option maxHeartbeats 8000000 in
set_option maxRecDepth 100000 in
theorem impl_projected.calls (k : Nat) (A0 : Option Addr) (c0 : Nat) (l0 : List Int) (a1 : Int) (r : List Int) (w : World) (hr0 : Kd.C (Kd.int .i64) w A0 l0.length l0) (hc0 : l0.length ≤ c0) (h : impl_projected.f k l0 a1 = some r) :
  Calls Tryd.prog 105 #[.slice A0 l0.length c0, .int .i64 a1] w fun e w' => ∃ v0_ : Value, e = .returned (v0_) ∧ Kd.R (Kd.int .i64) 2 w' w.heap.size (fun _ => True) v0_ r ∧ Below w.heap.size w w' := by
 have HR0 := zA hr0
 have HC0 := zA hc0
 clear hr0 hc0
 have HB := zA (kW w.heap.size w)
 have H := h
 unfold impl_projected.f at H
 clear h
 obtain ⟨y441, hy441⟩ : ∃ y_ : List Int, y_ = (([] : List Int)) := ⟨_, rfl⟩
 replace H : (impl_projected.l0 k a1 y441 l0 (l0.length : Int) 0) = some r := zy hy441 H
 have Ny441 := zA hy441
 clear hy441
 have H' := zA H
 clear H
 go_enter Tryd.func105, Tryd.ntmps105
 go_wp2_with (first | ((with_reducible refine kS (N := 8) rfl ?_); refine Kd.R_lit (Kd.int .i64) _ 2 ?hg (N := 8) ?hd (xs := ([] : List Int)) (inner := []) (ok := fun _ => True) (okp := fun _ => True) ?hr ?hp (fun _ hk => hk) trivial (kW _ _) (Nat.le_refl _) (by simp) ?_; (case hd => rfl); (case hg => rfl); (case hr => first | (go_simp; done) | (go_simp; rfl)); (case hp => exact (Reps.none _ _)); intro v442 w3 ho4 hb hg_ hnew_; clear hg_ hnew_; (first | rw [← Ny441.out] at ho4 | (simp only [Int.reduceToNat] at ho4; rw [← Ny441.out] at ho4)); have HO443 := zA (kI ho4 (kP (zQ HB.out))); replace HB := zA (kQ (zQ HB.out) hb); clear hb ho4))
 go_loopg [5, 11] k (fun kq v5 v11 w' => ∃ (x5_1 : List Int) (x11_1 : Int), v11 = .int .i64 x11_1 ∧ Aside0 (impl_projected.l0 kq a1 x5_1 l0 (l0.length : Int) x11_1 = some r) ∧ Aside0 (kq ≤ k) ∧ Aside0 (Kd.R (Kd.int .i64) 2 w' w.heap.size (fun _ => True) v5 x5_1) ∧ Aside0 (Below w.heap.size w w'))
 case atStart => exact ⟨(y441), (0), zs, H', ⟨Nat.le_refl _⟩, ⟨zP HO443.out⟩, ⟨zQ HB.out⟩⟩
 case round =>
  clear H'
  try clear c1
  obtain ⟨x5_1, x11_1, rfl, HA, HK1, HO_5, HB⟩ := hrel
  cases gk with
  | zero => exact absurd HA.out (by simp [impl_projected.l0])
  | succ k1 =>
   have H := HA.out
   clear HA
   simp only [impl_projected.l0] at H
   by_cases c5 : x11_1 < (l0.length : Int)
   ·rw [if_pos c5] at H
    have c5b0 : decide (x11_1 < (l0.length : Int)) = true := decide_eq_true c5
    clear c5
    by_cases c6 : 0 ≤ x11_1
    ·rw [if_pos c6] at H
     have c6b0 : decide (0 ≤ x11_1) = true := decide_eq_true c6
     clear c6
     by_cases c7 : x11_1 < (l0.length : Int)
     ·rw [if_pos c7] at H
      have c7b0 : decide (x11_1 < (l0.length : Int)) = true := decide_eq_true c7
      clear c7
      obtain ⟨t445, A8, H⟩ := zb H
      try dsimp only at H
      by_cases c9 : t445 = true
      ·subst c9
       rw [if_pos rfl] at H
       by_cases c10 : x5_1.length < 17592186044416
       ·rw [if_pos c10] at H
        have LMc10 := zA c10
        clear c10
        obtain ⟨y446, hy446⟩ : ∃ y_ : List Int, y_ = (x5_1 ++ [rd l0 x11_1]) := ⟨_, rfl⟩
        replace H : (impl_projected.l0 k1 a1 y446 l0 (l0.length : Int) (wrap64 (x11_1 + 1))) = some r := zy hy446 H
        have Ny446 := zA hy446
        clear hy446
        have H' := zA H
        clear H
        have p444 : 0 ≤ (x11_1 : Int) := zd
        have q444 : x11_1 < (l0.length : Int) := zd
        obtain ⟨ad444, e444, hx444_0⟩ := Kd.at_int HR0.out x11_1 p444 q444
        cases e444
        replace hx444_0 := (HB.out.cell (jG w _ hx444_0)).trans hx444_0
        replace p444 := eq_true p444
        replace q444 := eq_true q444
        go_wp2_with (first | (refine zO (some 17) Tryd.func77 #[.int .i64 a1, .int .i64 (rd l0 x11_1)] ?_; (with_reducible refine (impl_has.calls a1 (rd l0 x11_1) true _ A8.out).mono ?_); rintro e w' ⟨rfl, ⟨nd, rfl⟩⟩; refine ⟨_, rfl, ?_⟩) | ((with_reducible refine gate_builtin (b := .append) (xs := #[.tmp 18, .tmp 20]) rfl ?_); at_builtin; refine Kd.R_append (Kd.int .i64) (w0 := w) w.heap.size rfl (.tmp 18) (.tmp 20) 24 2 (.int .i64 0) 8 rfl Tryd.underlying24 info2 rfl (by decide) (by omega) u5 x5_1 (rd l0 x11_1) [.int .i64 (rd l0 x11_1)] (fun _ => True) (fun _ => False) rfl rfl ?aP (fun _ hk => hk.elim) ?aF ?aO ?aB ?aS ?aL ?_; (case aP => exact rfl); (case aB => exact (zQ HB.out)); (case aF => exact (fun _ _ => trivial)); (case aO => exact (zP HO_5.out)); (case aS => exact (kP (zQ HB.out))); (case aL => have := LMc10.out; omega); intro v447 w11 ho hb hg hat; rw [← Ny446.out] at ho; replace HB := zA (hb); have HO448 := zA (ho); clear HO_5; clear ho hb hg hat))
        go_roundg k1
        case measure => have := HK1.out; omega
        case rel => exact ⟨(y446), (wrap64 (x11_1 + 1)), zs, H', ⟨by have := HK1.out; omega⟩, ⟨zP HO448.out⟩, ⟨zQ HB.out⟩⟩
       rw [if_neg c10] at H
       exact absurd H (by simp)
      replace c9 := Bool.eq_false_iff.mpr c9
      subst c9
      rw [if_neg (show ¬ (false = true) by decide)] at H
      have H' := zA H
      clear H
      have p444 : 0 ≤ (x11_1 : Int) := zd
      have q444 : x11_1 < (l0.length : Int) := zd
      obtain ⟨ad444, e444, hx444_0⟩ := Kd.at_int HR0.out x11_1 p444 q444
      cases e444
      replace hx444_0 := (HB.out.cell (jG w _ hx444_0)).trans hx444_0
      replace p444 := eq_true p444
      replace q444 := eq_true q444
      go_wp2_with (first | (refine zO (some 17) Tryd.func77 #[.int .i64 a1, .int .i64 (rd l0 x11_1)] ?_; (with_reducible refine (impl_has.calls a1 (rd l0 x11_1) false _ A8.out).mono ?_); rintro e w' ⟨rfl, ⟨nd, rfl⟩⟩; refine ⟨_, rfl, ?_⟩))
      go_roundg k1
      case measure => have := HK1.out; omega
      case rel => exact ⟨(x5_1), (wrap64 (x11_1 + 1)), zs, H', ⟨by have := HK1.out; omega⟩, ⟨zP HO_5.out⟩, ⟨zQ HB.out⟩⟩
     rw [if_neg c7] at H
     exact absurd H (by simp)
    rw [if_neg c6] at H
    exact absurd H (by simp)
   rw [if_neg c5] at H
   have c5b0 : decide (x11_1 < (l0.length : Int)) = false := decide_eq_false c5
   clear c5
   obtain rfl := Option.some.inj H
   go_wp2
   go_ret
   exact ⟨_, zr, zP HO_5.out, zQ HB.out⟩

/-! ### impl_ties_partsOf: function 66 -/
mutual
def impl_ties_partsOf.l0 : Nat → List Int → List Int → Int → List Int → List Int → Int → Int → Option ((List (List Int)))
 | 0, _, _, _, _, _, _, _ => none
 | k + 1, x0, x1, x5, x6, x18, x19, x20 => if x20 < x19 then (if 0 ≤ x20 then (if x20 < (x18.length : Int) then (if 0 ≤ (rd x18 x20) then (if (rd x18 x20) < (x0.length : Int) then (if (rd x18 x20) < (x6.length : Int) then (impl_ties_partsOf.l0 k x0 x1 x5 (x6.set ((rd x18 x20) : Int).toNat (Go.bits .and .i64 (rd x0 (rd x18 x20)) x5)) x18 x19 (wrap64 (x20 + 1))) else (none)) else (none)) else (none)) else (none)) else (none)) else ((impl_components.f k x6).bind fun t462 => (impl_ties_partsOf.l1 k x0 x1 x5 (([] : List (List Int))) t462 (t462.length : Int) 0))
def impl_ties_partsOf.l1 : Nat → List Int → List Int → Int → List (List Int) → List Int → Int → Int → Option ((List (List Int)))
 | 0, _, _, _, _, _, _, _ => none
 | k + 1, x0, x1, x5, x9, x36, x37, x38 => if x38 < x37 then (if 0 ≤ x38 then (if x38 < (x36.length : Int) then (if (Go.bits .and .i64 (rd x36 x38) x5) = 0 then (impl_ties_partsOf.l1 k x0 x1 x5 x9 x36 x37 (wrap64 (x38 + 1))) else ((impl_projected.f k x1 (rd x36 x38)).bind fun t466 => ((impl_ties_normal.f k x0 t466).bind fun t469 => (if x9.length < 5864062014805 then (impl_ties_partsOf.l1 k x0 x1 x5 (x9 ++ [t469]) x36 x37 (wrap64 (x38 + 1))) else (none))))) else (none)) else (none)) else (some x9)
end
def impl_ties_partsOf.f (k : Nat) (l0 : List Int) (l1 : List Int) : Option ((List (List Int))) := (impl_maskOf.f k l1).bind fun t449 => (if 0 ≤ (l0.length : Int) then (if ((l0.length : Int) : Int).toNat ≤ 35184372088832 then ((impl_members.f k t449).bind fun t453 => (impl_ties_partsOf.l0 k l0 l1 t449 (List.replicate ((l0.length : Int) : Int).toNat 0) t453 (t453.length : Int) 0)) else (none)) else (none))

set_option maxHeartbeats 8000000 in
set_option maxRecDepth 100000 in
theorem impl_ties_partsOf.calls (k : Nat) (A0 : Option Addr) (c0 : Nat) (l0 : List Int) (A1 : Option Addr) (c1 : Nat) (l1 : List Int) (r : List (List Int)) (w : World) (hr0 : Kd.C (Kd.int .i64) w A0 l0.length l0) (hc0 : l0.length ≤ c0) (hr1 : Kd.C (Kd.int .i64) w A1 l1.length l1) (hc1 : l1.length ≤ c1) (hT : TabW w) (h : impl_ties_partsOf.f k l0 l1 = some r) :
  Calls Tryd.prog 66 #[.slice A0 l0.length c0, .slice A1 l1.length c1] w fun e w' => ∃ v0_ : Value, e = .returned (v0_) ∧ Kd.S (Kd.slice 2 (Kd.int .i64)) 24 w' w.heap.size (fun _ => True) v0_ r ∧ Below w.heap.size w w' := by
 have HT := zA hT
 clear hT
 have HR0 := zA hr0
 have HC0 := zA hc0
 clear hr0 hc0
 have HR1 := zA hr1
 have HC1 := zA hc1
 clear hr1 hc1
 have HB := zA (kW w.heap.size w)
 have H := h
 unfold impl_ties_partsOf.f at H
 clear h
 obtain ⟨t449, A3, H⟩ := zb H
 try dsimp only at H
 by_cases c4 : 0 ≤ (l0.length : Int)
 ·rw [if_pos c4] at H
  have c4b0 := eq_true c4
  have c4b1 : decide (0 ≤ (l0.length : Int)) = true := decide_eq_true c4
  clear c4
  by_cases c5 : ((l0.length : Int) : Int).toNat ≤ 35184372088832
  ·rw [if_pos c5] at H
   have c5b0 := eq_true c5
   have c5b1 : decide (((l0.length : Int) : Int).toNat ≤ 35184372088832) = true := decide_eq_true c5
   clear c5
   obtain ⟨y450, hy450⟩ : ∃ y_ : List Int, y_ = (List.replicate ((l0.length : Int) : Int).toNat 0) := ⟨_, rfl⟩
   replace H : ((impl_members.f k t449).bind fun t453 => (impl_ties_partsOf.l0 k l0 l1 t449 y450 t453 (t453.length : Int) 0)) = some r := zy hy450 H
   have Ny450 := zA hy450
   clear hy450
   obtain ⟨t453, A6, H⟩ := zb H
   try dsimp only at H
   have H' := zA H
   clear H
   go_enter Tryd.func66, Tryd.ntmps66
   go_wp2_with (first | (refine zO (some 13) Tryd.func102 #[.slice A1 l1.length c1] ?_; (with_reducible refine (impl_maskOf.calls k _ _ l1 t449 _ ?side1 ?side2 A3.out).mono ?_); (case side1 => exact zS HR1.out); (case side2 => exact HC1.out); rintro e w' ⟨rfl, ⟨nd, rfl⟩⟩; refine ⟨_, rfl, ?_⟩) | ((with_reducible refine kS (N := 16) rfl ?_); refine Kd.R_make (Kd.int .i64) _ 2 rfl (N := 16) rfl 24 _ _ rfl (l0.length : Int) rfl rfl Tryd.underlying24 (.int .i64 0) 8 info2 rfl (by decide) (by omega) 0 (ok := fun _ => True) (okp := fun _ => True) rfl (fun _ hk => hk) trivial (zd) (Nat.le_trans (Nat.mul_le_mul_right _ (zd : (l0.length : Int).toNat ≤ 35184372088832)) (by omega)) (kW _ _) (Nat.le_refl _) ?_; intro v451 w7 ho8 hb hg_ hnew_; clear hg_ hnew_; (first | rw [← Ny450.out] at ho8 | (simp only [Int.reduceToNat] at ho8; rw [← Ny450.out] at ho8)); have HO452 := zA (kI ho8 (kP (zQ HB.out))); replace HB := zA (kQ (zQ HB.out) hb); clear hb ho8) | (refine zO (some 18) Tryd.func103 #[.int .i64 t449] ?_; (with_reducible refine (impl_members.calls k t449 t453 _ ?side1 A6.out).mono ?_); (case side1 => exact TabW.below HT.out (zQ HB.out)); rintro e w9 ⟨v454, rfl, ho0, hb⟩; refine ⟨_, rfl, ?_⟩; have HO455 := zA (kI (kF ho0 (kH (zP HO452.out))) (kP (zQ HB.out))); replace HO452 := zA (kE (zP HO452.out) (kC ho0) hb); replace HB := zA (kQ (zQ HB.out) hb); (try clear hb); (try clear ho0); obtain ⟨Ao10, co10, eo10⟩ := kM HO455.out; subst eo10))
   go_loopg [20] k (fun kq v20 w' => ∃ (x6_1 : List Int) (x20_1 : Int), v20 = .int .i64 x20_1 ∧ Aside0 (impl_ties_partsOf.l0 kq l0 l1 t449 x6_1 t453 (t453.length : Int) x20_1 = some r) ∧ Aside0 (kq ≤ k) ∧ Aside0 (Kd.R (Kd.int .i64) 2 w' w.heap.size (fun k_ => some k_ ≠ ((.slice Ao10 t453.length co10) : Value).ownBlock) v451 x6_1) ∧ Aside0 (Kd.R (Kd.int .i64) 2 w' w.heap.size (fun k_ => some k_ ≠ (v451 : Value).ownBlock) (.slice Ao10 t453.length co10) t453) ∧ Aside0 (Below w.heap.size w w'))
   case atStart => exact ⟨(y450), (0), zs, H', ⟨Nat.le_refl _⟩, ⟨zPM HO452.out (fun _ hk => hk.2)⟩, ⟨zPM HO455.out (fun _ hk => hk.2)⟩, ⟨zQ HB.out⟩⟩
   case round =>
    clear H'
    try clear c1
    try clear c4
    try clear c5
    try clear c6
    try clear c10
    obtain ⟨x6_1, x20_1, rfl, HA, HK1, HO_6, HO_18, HB⟩ := hrel
    cases gk with
    | zero => exact absurd HA.out (by simp [impl_ties_partsOf.l0])
    | succ k1 =>
     have H := HA.out
     clear HA
     simp only [impl_ties_partsOf.l0] at H
     by_cases c11 : x20_1 < (t453.length : Int)
     ·rw [if_pos c11] at H
      have c11b0 : decide (x20_1 < (t453.length : Int)) = true := decide_eq_true c11
      clear c11
      by_cases c12 : 0 ≤ x20_1
      ·rw [if_pos c12] at H
       have c12b0 : decide (0 ≤ x20_1) = true := decide_eq_true c12
       clear c12
       by_cases c13 : x20_1 < (t453.length : Int)
       ·rw [if_pos c13] at H
        have c13b0 : decide (x20_1 < (t453.length : Int)) = true := decide_eq_true c13
        clear c13
        by_cases c14 : 0 ≤ (rd t453 x20_1)
        ·rw [if_pos c14] at H
         have c14b0 : decide (0 ≤ (rd t453 x20_1)) = true := decide_eq_true c14
         clear c14
         by_cases c15 : (rd t453 x20_1) < (l0.length : Int)
         ·rw [if_pos c15] at H
          have c15b0 : decide ((rd t453 x20_1) < (l0.length : Int)) = true := decide_eq_true c15
          clear c15
          by_cases c16 : (rd t453 x20_1) < (x6_1.length : Int)
          ·rw [if_pos c16] at H
           have c16b0 : decide ((rd t453 x20_1) < (x6_1.length : Int)) = true := decide_eq_true c16
           clear c16
           obtain ⟨y458, hy458⟩ : ∃ y_ : List Int, y_ = (x6_1.set ((rd t453 x20_1) : Int).toNat (Go.bits .and .i64 (rd l0 (rd t453 x20_1)) t449)) := ⟨_, rfl⟩
           replace H : (impl_ties_partsOf.l0 k1 l0 l1 t449 y458 t453 (t453.length : Int) (wrap64 (x20_1 + 1))) = some r := zy hy458 H
           have Ny458 := zA hy458
           clear hy458
           have H' := zA H
           clear H
           have p456 : 0 ≤ (x20_1 : Int) := zd
           have q456 : x20_1 < (t453.length : Int) := zd
           obtain ⟨ad456, e456, hx456_0⟩ := Kd.at_int (kB HO_18.out).2.2 x20_1 p456 q456
           cases e456
           replace p456 := eq_true p456
           replace q456 := eq_true q456
           have p457 : 0 ≤ ((rd t453 x20_1) : Int) := zd
           have q457 : (rd t453 x20_1) < (l0.length : Int) := zd
           obtain ⟨ad457, e457, hx457_0⟩ := Kd.at_int HR0.out (rd t453 x20_1) p457 q457
           cases e457
           replace hx457_0 := (HB.out.cell (jG w _ hx457_0)).trans hx457_0
           replace p457 := eq_true p457
           replace q457 := eq_true q457
           have p17 : 0 ≤ ((rd t453 x20_1) : Int) := zd
           have q17 : ((rd t453 x20_1) : Int) < ((x6_1.length : Int) : Int) := zd
           obtain ⟨go17, co17, eo17, gb17, gl17, cl17, HG17⟩ := Kd.R_form HO_6.out (by omega)
           (first | cases eo17 | (injection eo17 with ea_ en_ ec_; (first | subst ea_ | (injection ea_ with ea_; subst ea_)); subst ec_; clear en_))
           have GB17 := zA gb17
           have GG17 := zA HG17
           clear gb17 gl17 HG17
           obtain ⟨hx17_0, hf17_0⟩ := Kd.R_celln 0 HO_6.out ((rd t453 x20_1) : Int) p17 q17
           replace p17 := eq_true p17
           replace q17 := eq_true q17
           have HP18 := Kd.R_putg HO_6.out ((rd t453 x20_1) : Int) (Go.bits .and .i64 (rd l0 (rd t453 x20_1)) t449)
           go_wp2_with (first | ((with_reducible refine gate_store (t := 2) (p := 32) rfl ?_); refine store_event (t := 2) (p := 32) (v := ?vo_w19) (w1 := (wr.setCell ⟨go17, ((rd t453 x20_1) : Int).toNat, none⟩ (.int .i64 (Go.bits .and .i64 (rd l0 (rd t453 x20_1)) t449)))) ?hg ?ho ?hn ?hr ?_; (case ho => rfl); (case hg => rfl); (case hn => rfl); (case hr => first | (go_simp; done) | (go_simp; rfl)); intro w19 hw; have hg : wr.grownBy w19 (some go17) := (by rw [hw]; exact HP18.2); have hp_ : Kd.R (Kd.int .i64) 2 w19 w.heap.size (fun k_ => some k_ ≠ (.slice (some ad456) t453.length co10 : Value).ownBlock) (.slice (some ⟨go17, 0, none⟩) x6_1.length co17) y458 := (by rw [hw, Ny458.out]; exact HP18.1); clear HP18; replace HO_6 := zA (hp_); replace HO_18 := zA (Kd.R_after (v := (.slice (some ⟨go17, 0, none⟩) x6_1.length co17)) (v1 := (.slice (some ⟨go17, 0, none⟩) x6_1.length co17)) (ok := (fun _ => True)) (by (with_reducible repeat (first | apply zF | apply zG | apply zH)); exact kA HO_18.out (fun _ hk => ⟨trivial, hk⟩)) hg (.inl rfl)); replace HB := zA ((by rw [hw]; exact zE (HB.out) GB17.out : Below w.heap.size w w19)); clear hg hw hp_))
           go_roundg k1
           case measure => have := HK1.out; omega
           case rel => exact ⟨(y458), (wrap64 (x20_1 + 1)), zs, H', ⟨by have := HK1.out; omega⟩, ⟨zP HO_6.out⟩, ⟨zPM HO_18.out (fun _ hk => hk.2)⟩, ⟨zQ HB.out⟩⟩
          rw [if_neg c16] at H
          exact absurd H (by simp)
         rw [if_neg c15] at H
         exact absurd H (by simp)
        rw [if_neg c14] at H
        exact absurd H (by simp)
       rw [if_neg c13] at H
       exact absurd H (by simp)
      rw [if_neg c12] at H
      exact absurd H (by simp)
     rw [if_neg c11] at H
     have c11b0 : decide (x20_1 < (t453.length : Int)) = false := decide_eq_false c11
     clear c11
     obtain ⟨y459, hy459⟩ : ∃ y_ : List (List Int), y_ = (([] : List (List Int))) := ⟨_, rfl⟩
     replace H : ((impl_components.f k1 x6_1).bind fun t462 => (impl_ties_partsOf.l1 k1 l0 l1 t449 y459 t462 (t462.length : Int) 0)) = some r := zy hy459 H
     have Ny459 := zA hy459
     clear hy459
     obtain ⟨t462, A20, H⟩ := zb H
     try dsimp only at H
     have H' := zA H
     clear H
     go_wp2_with (first | ((with_reducible refine kS (N := 34) rfl ?_); refine Kd.S_lit (Kd.slice 2 (Kd.int .i64)) _ 24 ?hg (N := 34) ?hd (xs := ([] : List (List Int))) (inner := []) (ok := fun _ => True) (okp := fun _ => True) ?hr ?hp (fun _ hk => hk) trivial (kW _ _) (Nat.le_refl _) (by simp) ?_; (case hd => rfl); (case hg => rfl); (case hr => first | (go_simp; done) | (go_simp; rfl)); (case hp => exact (Reps.none _ _)); intro v460 w21 ho22 hb hg_ hnew_; clear hg_ hnew_; (first | rw [← Ny459.out] at ho22 | (simp only [Int.reduceToNat] at ho22; rw [← Ny459.out] at ho22)); have HO461 := zA (Kd.S_lower (Kd.S_new' (Kd.S_new' ho22 (kH (zP HO_6.out))) (kH (zP HO_18.out))) (kP (zQ HB.out))); replace HO_6 := zA (kL (zP HO_6.out) hb); replace HO_18 := zA (kL (zP HO_18.out) hb); replace HB := zA (kQ (zQ HB.out) hb); clear hb ho22; obtain ⟨Ao23, co23, eo23⟩ := kM HO_6.out; subst eo23) | (refine zO (some 36) Tryd.func104 #[.slice Ao23 x6_1.length co23] ?_; (with_reducible refine (impl_components.calls k1 _ _ x6_1 t462 _ ?side1 ?side2 ?side3 A20.out).mono ?_); (case side1 => exact zS (kB HO_6.out).2.2); (case side2 => exact (kB HO_6.out).2.1); (case side3 => exact TabW.below HT.out (zQ HB.out)); rintro e w24 ⟨v463, rfl, ho0, hb⟩; refine ⟨_, rfl, ?_⟩; replace HO461 := zA (Kd.S_elder' (by (with_reducible repeat (first | apply Kd.S_alloc | apply Kd.S_drewN | apply Kd.S_drew)); exact HO461.out) (kC ho0) hb); have HO464 := zA (kI (kF (kF ho0 (kH (zP HO_6.out))) (kH (zP HO_18.out))) (kP (zQ HB.out))); replace HO_6 := zA (kE (zP HO_6.out) (kC ho0) hb); replace HO_18 := zA (kE (zP HO_18.out) (kC ho0) hb); replace HB := zA (kQ (zQ HB.out) hb); (try clear hb); (try clear ho0); obtain ⟨Ao25, co25, eo25⟩ := kM HO464.out; subst eo25))
     go_loopg [9, 38] k1 (fun kq v9 v38 w' => ∃ (x9_2 : List (List Int)) (x38_2 : Int), v38 = .int .i64 x38_2 ∧ Aside0 (impl_ties_partsOf.l1 kq l0 l1 t449 x9_2 t462 (t462.length : Int) x38_2 = some r) ∧ Aside0 (kq ≤ k1) ∧ Aside0 (Kd.S (Kd.slice 2 (Kd.int .i64)) 24 w' w.heap.size (fun k_ => some k_ ≠ ((.slice Ao25 t462.length co25) : Value).ownBlock) v9 x9_2) ∧ Aside0 (Kd.R (Kd.int .i64) 2 w' w.heap.size (fun _ => True) (.slice Ao25 t462.length co25) t462) ∧ Aside0 (Below w.heap.size w w'))
     case atStart => exact ⟨(y459), (0), zs, H', ⟨Nat.le_refl _⟩, ⟨by (with_reducible repeat (first | apply Kd.S_alloc | apply Kd.S_drewN | apply Kd.S_drew)); exact Kd.S_mono HO461.out (fun _ hk => hk.2)⟩, ⟨zPM HO464.out (fun _ hk => trivial)⟩, ⟨zQ HB.out⟩⟩
     case round =>
      clear H'
      try clear c1
      try clear hx1
      try clear c4
      try clear hx4
      try clear c5
      try clear c6
      try clear c10
      try clear c11
      try clear c12
      try clear c13
      try clear c14
      try clear c15
      try clear c16
      try clear hx17
      try clear hf17
      try clear hx17_0
      try clear hx456_0
      try clear hx457_0
      obtain ⟨x9_2, x38_2, rfl, HA, HK2, HO_9, HO_36, HB⟩ := hrel
      cases gk with
      | zero => exact absurd HA.out (by simp [impl_ties_partsOf.l1])
      | succ k2 =>
       have H := HA.out
       clear HA
       simp only [impl_ties_partsOf.l1] at H
       by_cases c26 : x38_2 < (t462.length : Int)
       ·rw [if_pos c26] at H
        have c26b0 : decide (x38_2 < (t462.length : Int)) = true := decide_eq_true c26
        clear c26
        by_cases c27 : 0 ≤ x38_2
        ·rw [if_pos c27] at H
         have c27b0 : decide (0 ≤ x38_2) = true := decide_eq_true c27
         clear c27
         by_cases c28 : x38_2 < (t462.length : Int)
         ·rw [if_pos c28] at H
          have c28b0 : decide (x38_2 < (t462.length : Int)) = true := decide_eq_true c28
          clear c28
          by_cases c29 : (Go.bits .and .i64 (rd t462 x38_2) t449) = 0
          ·rw [if_pos c29] at H
           obtain ⟨c29b0, c29b1⟩ := zT1 c29
           clear c29
           have H' := zA H
           clear H
           have p465 : 0 ≤ (x38_2 : Int) := zd
           have q465 : x38_2 < (t462.length : Int) := zd
           obtain ⟨ad465, e465, hx465_0⟩ := Kd.at_int (kB HO_36.out).2.2 x38_2 p465 q465
           cases e465
           replace p465 := eq_true p465
           replace q465 := eq_true q465
           go_wp2
           go_roundg k2
           case measure => have := HK1.out; have := HK2.out; omega
           case rel => exact ⟨(x9_2), (wrap64 (x38_2 + 1)), zs, H', ⟨by have := HK1.out; have := HK2.out; omega⟩, ⟨by (with_reducible repeat (first | apply Kd.S_alloc | apply Kd.S_drewN | apply Kd.S_drew)); exact HO_9.out⟩, ⟨zP HO_36.out⟩, ⟨zQ HB.out⟩⟩
          rw [if_neg c29] at H
          obtain ⟨c29b0, c29b1⟩ := zT2 c29
          obtain ⟨t466, A30, H⟩ := zb H
          try dsimp only at H
          obtain ⟨t469, A31, H⟩ := zb H
          try dsimp only at H
          by_cases c32 : x9_2.length < 5864062014805
          ·rw [if_pos c32] at H
           have LMc32 := zA c32
           clear c32
           obtain ⟨y472, hy472⟩ : ∃ y_ : List (List Int), y_ = (x9_2 ++ [t469]) := ⟨_, rfl⟩
           replace H : (impl_ties_partsOf.l1 k2 l0 l1 t449 y472 t462 (t462.length : Int) (wrap64 (x38_2 + 1))) = some r := zy hy472 H
           have Ny472 := zA hy472
           clear hy472
           have H' := zA H
           clear H
           have p465 : 0 ≤ (x38_2 : Int) := zd
           have q465 : x38_2 < (t462.length : Int) := zd
           obtain ⟨ad465, e465, hx465_0⟩ := Kd.at_int (kB HO_36.out).2.2 x38_2 p465 q465
           cases e465
           replace p465 := eq_true p465
           replace q465 := eq_true q465
           go_wp2_with (first | (refine zO (some 50) Tryd.func105 #[.slice A1 l1.length c1, .int .i64 (rd t462 x38_2)] ?_; (with_reducible refine (impl_projected.calls k2 _ _ l1 (rd t462 x38_2) t466 _ ?side1 ?side2 A30.out).mono ?_); (case side1 => exact zS (kO HR1.out HB.out)); (case side2 => exact HC1.out); rintro e w33 ⟨v467, rfl, ho0, hb⟩; refine ⟨_, rfl, ?_⟩; replace HO_9 := zA (Kd.S_elder' (by (with_reducible repeat (first | apply Kd.S_alloc | apply Kd.S_drewN | apply Kd.S_drew)); exact HO_9.out) (kC ho0) hb); have HO468 := zA (kI (kF ho0 (kH (zP HO_36.out))) (kP (zQ HB.out))); replace HO_36 := zA (kE (zP HO_36.out) (kC ho0) hb); replace HB := zA (kQ (zQ HB.out) hb); (try clear hb); (try clear ho0); obtain ⟨Ao34, co34, eo34⟩ := kM HO468.out; subst eo34) | (refine zO (some 51) Tryd.func59 #[.slice A0 l0.length c0, .slice Ao34 t466.length co34] ?_; (with_reducible refine (impl_ties_normal.calls k2 _ _ l0 (fun k_ => some k_ = (.slice Ao34 t466.length co34 : Value).ownBlock) _ _ t466 t469 _ ?side1 ?side2 ?side3 ?side4 A31.out).mono ?_); (case side1 => exact zS (kO HR0.out HB.out)); (case side2 => exact HC0.out); (case side3 => exact jL (jK rfl (Kd.R_apart' (HO468.out) (Kd.S_typed HO_9.out) (by decide)))); (case side4 => exact TabW.below HT.out (zQ HB.out)); rintro e w35 ⟨v470, rfl, ho0, hb⟩; refine ⟨_, rfl, ?_⟩; replace HO_9 := zA (Kd.S_elder' (by (with_reducible repeat (first | apply Kd.S_alloc | apply Kd.S_drewN | apply Kd.S_drew)); exact HO_9.out) (kC ho0) hb); have HO471 := zA (kI (kF (kF (kA (ok' := fun k_ => True) ho0 (fun _ hk_ => trivial)) (kH (zP HO_36.out))) (kH (zP HO468.out))) (kP (zQ HB.out))); replace HO_36 := zA (kE (zP HO_36.out) (kC ho0) hb); replace HO468 := zA (kE (zP HO468.out) (kC ho0) hb); replace HB := zA (kQ (zQ HB.out) hb); (try clear hb); (try clear ho0); obtain ⟨Ao37, co37, eo37⟩ := kM HO471.out; subst eo37) | ((with_reducible refine gate_builtin (b := .append) (xs := #[.tmp 46, .tmp 52]) rfl ?_); at_builtin; refine Kd.S_append (Kd.slice 2 (Kd.int .i64)) (w0 := w) w.heap.size rfl (.tmp 46) (.tmp 52) 41 24 (.slice none 0 0) 24 rfl Tryd.underlying41 info24 rfl (by decide) (by omega) u9 x9_2 t469 [.slice Ao37 t469.length co37] (fun k_ => some k_ ≠ (.slice (some ad465) t462.length co25 : Value).ownBlock ∧ some k_ ≠ (.slice Ao34 t466.length co34 : Value).ownBlock) (fun k_ => some k_ = (.slice Ao37 t469.length co37 : Value).ownBlock) rfl rfl ?aP (fun k_ hk_ => ((kA (ok' := fun k_ => ((fun k_ => some k_ ≠ (.slice (some ad465) t462.length co25 : Value).ownBlock ∧ some k_ ≠ (.slice Ao34 t466.length co34 : Value).ownBlock)) k_ ∧ some k_ ≠ (u9 : Value).ownBlock) (Kd.R_apart' (HO471.out) (Kd.S_typed HO_9.out) (by decide)) (fun k_ hk => ⟨⟨hk.1.1.2, hk.1.2⟩, hk.2⟩))).1 k_ hk_.symm) ?aF ?aO ?aB ?aS ?aL ?_; (case aP => exact Kd.M_row (kA (jK rfl (kA (ok' := fun k_ => ((fun k_ => some k_ ≠ (.slice (some ad465) t462.length co25 : Value).ownBlock ∧ some k_ ≠ (.slice Ao34 t466.length co34 : Value).ownBlock)) k_ ∧ some k_ ≠ (u9 : Value).ownBlock) (Kd.R_apart' (HO471.out) (Kd.S_typed HO_9.out) (by decide)) (fun k_ hk => ⟨⟨hk.1.1.2, hk.1.2⟩, hk.2⟩))) (fun _ h_ => h_))); (case aB => exact (zQ HB.out)); (case aF => exact (fun k_ hk => ⟨jF (kH (zP HO_36.out)) k_ hk, jF (kH (zP HO468.out)) k_ hk⟩)); (case aO => exact (by (with_reducible repeat (first | apply Kd.S_alloc | apply Kd.S_drewN | apply Kd.S_drew)); exact Kd.S_mono HO_9.out (fun k_ hk => ⟨⟨hk.1.1, hk.1.2⟩, fun e_ => hk.2 e_⟩))); (case aS => exact (kP (zQ HB.out))); (case aL => have := LMc32.out; omega); intro v473 w36 ho hb hg hat; rw [← Ny472.out] at ho; replace HO_36 := zA (Kd.R_over' (zP HO_36.out) (Kd.S_typed (by (with_reducible repeat (first | apply Kd.S_alloc | apply Kd.S_drewN | apply Kd.S_drew)); exact HO_9.out)) (by decide) hg); replace HO468 := zA (Kd.R_over' (zP HO468.out) (Kd.S_typed (by (with_reducible repeat (first | apply Kd.S_alloc | apply Kd.S_drewN | apply Kd.S_drew)); exact HO_9.out)) (by decide) hg); replace HB := zA (hb); have HO474 := zA (ho); clear HO_9 HO471; clear ho hb hg hat))
           go_roundg k2
           case measure => have := HK1.out; have := HK2.out; omega
           case rel => exact ⟨(y472), (wrap64 (x38_2 + 1)), zs, H', ⟨by have := HK1.out; have := HK2.out; omega⟩, ⟨by (with_reducible repeat (first | apply Kd.S_alloc | apply Kd.S_drewN | apply Kd.S_drew)); exact Kd.S_mono HO474.out (fun _ hk => hk.1)⟩, ⟨zPM HO_36.out (fun _ hk => trivial)⟩, ⟨zQ HB.out⟩⟩
          rw [if_neg c32] at H
          exact absurd H (by simp)
         rw [if_neg c28] at H
         exact absurd H (by simp)
        rw [if_neg c27] at H
        exact absurd H (by simp)
       rw [if_neg c26] at H
       have c26b0 : decide (x38_2 < (t462.length : Int)) = false := decide_eq_false c26
       clear c26
       obtain rfl := Option.some.inj H
       go_wp2
       go_ret
       exact ⟨_, zr, by (with_reducible repeat (first | apply Kd.S_alloc | apply Kd.S_drewN | apply Kd.S_drew)); exact Kd.S_mono HO_9.out (fun _ hk => trivial), zQ HB.out⟩
  rw [if_neg c5] at H
  exact absurd H (by simp)
 rw [if_neg c4] at H
 exact absurd H (by simp)

/-! ### impl_TraceComponents: function 30 -/
def impl_TraceComponents.f (k : Nat) (a0_0 : Int) (l0_1 : List Int) (l1 : List Int) : Option ((List (List Int)) × Int) := (impl_checkWords.f k a0_0 l0_1 (([l1] : List (List Int)))).bind fun t479 => (if t479 = 0 then ((impl_Alphabet_ties.f a0_0 l0_1).bind fun t480 => ((impl_ties_partsOf.f k t480 l1).bind fun t483 => (some (t483, 0)))) else (some (([] : List (List Int)), t479)))

set_option maxHeartbeats 8000000 in
set_option maxRecDepth 100000 in
theorem impl_TraceComponents.calls (k : Nat) (a0_0 : Int) (P0_1_ : Nat → Prop) (A0_1 : Option Addr) (c0_1 : Nat) (l0_1 : List Int) (P1_ : Nat → Prop) (A1 : Option Addr) (c1 : Nat) (l1 : List Int) (r1 : List (List Int)) (r2 : Int) (w : World) (hs0_1 : Kd.V (Kd.int .i64) 2 w w.heap.size (fun k_ => P0_1_ k_) (.slice A0_1 l0_1.length c0_1) l0_1) (hs1 : Kd.V (Kd.int .i64) 2 w w.heap.size (fun k_ => P1_ k_) (.slice A1 l1.length c1) l1) (hT : TabW w) (h : impl_TraceComponents.f k a0_0 l0_1 l1 = some (r1, r2)) :
  Calls Tryd.prog 30 #[.agg #[.int .i64 a0_0, .slice A0_1 l0_1.length c0_1], .slice A1 l1.length c1] w fun e w' => ∃ v0_ : Value, e = .returned (.tuple #[v0_, .int .i64 r2]) ∧ Kd.N (Kd.slice 2 (Kd.int .i64)) 24 w' w.heap.size (fun k_ => ((P0_1_ k_ ∨ P1_ k_) ∨ w.heap.size ≤ k_)) v0_ r1 ∧ Below w.heap.size w w' := by
 have hu26 := Tryd.underlying26
 have HT := zA hT
 clear hT
 have HO0_1 := zA (show Kd.V (Kd.int .i64) 2 w w.heap.size (fun k_ => ((P0_1_ k_ ∨ P1_ k_) ∨ w.heap.size ≤ k_)) (.slice A0_1 l0_1.length c0_1) l0_1 from kN hs0_1 (fun k_ hk => .inl (.inl hk)))
 have HO1 := zA (show Kd.V (Kd.int .i64) 2 w w.heap.size (fun k_ => ((P0_1_ k_ ∨ P1_ k_) ∨ w.heap.size ≤ k_)) (.slice A1 l1.length c1) l1 from kN hs1 (fun k_ hk => .inl (.inr hk)))
 have HB := zA (kW w.heap.size w)
 have H := h
 unfold impl_TraceComponents.f at H
 clear h
 obtain ⟨y476, hy476⟩ : ∃ y_ : List (List Int), y_ = (([l1] : List (List Int))) := ⟨_, rfl⟩
 replace H : ((impl_checkWords.f k a0_0 l0_1 y476).bind fun t479 => (if t479 = 0 then ((impl_Alphabet_ties.f a0_0 l0_1).bind fun t480 => ((impl_ties_partsOf.f k t480 l1).bind fun t483 => (some (t483, 0)))) else (some (([] : List (List Int)), t479)))) = some (r1, r2) := zy hy476 H
 have Ny476 := zA hy476
 clear hy476
 obtain ⟨t479, A3, H⟩ := zb H
 try dsimp only at H
 by_cases c4 : t479 = 0
 ·rw [if_pos c4] at H
  obtain ⟨c4b0, c4b1⟩ := zT1 c4
  clear c4
  obtain ⟨t480, A5, H⟩ := zb H
  try dsimp only at H
  obtain ⟨t483, A6, H⟩ := zb H
  try dsimp only at H
  simp only [Option.some.injEq, Prod.mk.injEq] at H
  obtain ⟨rfl, rfl⟩ := H
  go_enter Tryd.func30, Tryd.ntmps30
  go_wp2_with (first | (refine zBE 2 #[.int .i64 a0_0, .slice A0_1 l0_1.length c0_1] 26 ?_; intro gb475 hg w7 hbox hb; replace HO0_1 := zA (kG (jD (zPV HO0_1.out) gb475 (Nat.le_of_eq hg.symm)) hb); replace HO1 := zA (kG (jD (zPV HO1.out) gb475 (Nat.le_of_eq hg.symm)) hb); have BK475 := zA (hbox); have GW475 := zA (zBH hg HB.out); have GE475 := zA (zBH hg HB.out); replace HB := zA (kQ (zQ HB.out) hb); clear hb hbox hg; obtain ⟨hcz8_0, hcz8_1, hfz8_0, hfz8_1⟩ := zB3 BK475.out) | ((with_reducible refine kS (N := 9) rfl ?_); refine Kd.N_lit (Kd.slice 2 (Kd.int .i64)) _ 24 ?hg (N' := 9) ?hd (xs := ([l1] : List (List Int))) (inner := [.slice A1 l1.length c1]) (ok := (fun k_ => ((P0_1_ k_ ∨ P1_ k_) ∨ w.heap.size ≤ k_) ∧ k_ ≠ gb475)) (okp := (fun k_ => ((P0_1_ k_ ∨ P1_ k_) ∨ w.heap.size ≤ k_) ∧ k_ ≠ gb475)) ?hr ?hp (fun _ hk => hk) ((show ∀ k_ : Nat, (_ : Nat) ≤ k_ → (fun k_ => ((P0_1_ k_ ∨ P1_ k_) ∨ w.heap.size ≤ k_) ∧ k_ ≠ gb475) k_ from fun k_ hk => ⟨(.inr (Nat.le_trans (kP (zT HB.out GE475.out)) hk)), jE (g := gb475) (o := .cells #[.int .i64 a0_0, .slice A0_1 l0_1.length c0_1] 26 (0, 0)) (zR BK475.out) k_ hk⟩) _ (Nat.le_refl _)) (kW _ _) (Nat.le_refl _) (by simp) ?_; (case hd => rfl); (case hg => rfl); (case hr => first | (go_simp; done) | (go_simp; rfl)); (case hp => exact (Reps.one (show Kd.FK (Kd.slice 2 (Kd.int .i64)) _ _ l1 [.slice A1 l1.length c1] from (zFK (kN (ok' := (fun k_ => ((P0_1_ k_ ∨ P1_ k_) ∨ w.heap.size ≤ k_) ∧ k_ ≠ gb475)) (HO1.out) (fun k_ hk => ⟨hk.1, hk.2⟩)))) (Reps.none _ _))); intro v477 w9 ho10 hb hg_ hnew_; clear hg_ hnew_; (first | rw [← Ny476.out] at ho10 | (simp only [Int.reduceToNat] at ho10; rw [← Ny476.out] at ho10)); replace HO0_1 := zA (kK (zPV HO0_1.out) (Kd.N_base ho10) hb); replace HO1 := zA (kK (zPV HO1.out) (Kd.N_base ho10) hb); have HO478 := zA (jN ho10 (kP (zT HB.out GE475.out))); replace BK475 := zA (zB1 BK475.out hb); replace HB := zA (kQ (zT HB.out GE475.out) hb); clear hb ho10; obtain ⟨Ao11, co11, eo11⟩ := Kd.N_slice HO478.out; subst eo11) | (refine zO (some 10) Tryd.func53 #[.agg #[.int .i64 a0_0, .slice A0_1 l0_1.length c0_1], .slice Ao11 y476.length co11] ?_; (with_reducible refine (impl_checkWords.calls k a0_0 _ _ l0_1 _ _ y476 t479 _ ?side1 ?side2 ?side3 ?side4 ?side5 A3.out).mono ?_); (case side1 => exact zS (kJ HO0_1.out).2.2); (case side2 => exact (kJ HO0_1.out).2.1); (case side3 => exact zS (Kd.N_reads' HO478.out).2.2); (case side4 => exact (Kd.N_reads' HO478.out).2.1); (case side5 => exact TabW.below HT.out (zT HB.out GE475.out)); rintro e w12 ⟨rfl, hb⟩; refine ⟨_, rfl, ?_⟩; replace HO0_1 := zA (kG (zPV HO0_1.out) hb); replace HO1 := zA (kG (zPV HO1.out) hb); replace HO478 := zA (kZ (zPN HO478.out) hb); replace BK475 := zA (zB1 BK475.out hb); replace HB := zA (kQ (zT HB.out GE475.out) hb); (try clear hb); obtain ⟨hcz13_0, hcz13_1, hfz13_0, hfz13_1⟩ := zB3 BK475.out) | (refine zO (some 15) Tryd.func54 #[.agg #[.int .i64 a0_0, .slice A0_1 l0_1.length c0_1]] ?_; (with_reducible refine (impl_Alphabet_ties.calls a0_0 (fun k_ => ((((P0_1_ k_ ∨ P1_ k_) ∨ w.heap.size ≤ k_) ∧ k_ ≠ gb475) ∧ some k_ ≠ (.slice Ao11 y476.length co11 : Value).ownBlock)) _ _ l0_1 t480 _ ?side1 A5.out).mono ?_); (case side1 => exact HO0_1.out); rintro e w14 ⟨v481, rfl, ho0, hb⟩; refine ⟨_, rfl, ?_⟩; replace HO0_1 := zA (kG (zPV HO0_1.out) hb); replace HO1 := zA (kG (zPV HO1.out) hb); have HO482 := zA (jM (kN (ok' := fun k_ => ((P0_1_ k_ ∨ P1_ k_) ∨ w.heap.size ≤ k_) ∧ some k_ ≠ (.slice Ao11 y476.length co11 : Value).ownBlock ∧ k_ ≠ gb475) ho0 (fun k_ hk_ => ⟨Or.elim hk_ (fun hs_ => hs_.1.1) (fun hn_ => (.inr (Nat.le_trans (kP (zT HB.out GE475.out)) hn_))), Or.elim hk_ (fun hs_ => hs_.2) (fun hn_ => (jF (jA (zPN HO478.out)) k_ hn_)), Or.elim hk_ (fun hs_ => hs_.1.2) (fun hn_ => (jE (g := gb475) (o := .cells #[.int .i64 a0_0, .slice A0_1 l0_1.length c0_1] 26 (0, 0)) (zR BK475.out) k_ hn_))⟩)) (kP (zT HB.out GE475.out))); replace HO478 := zA (kZ (zPN HO478.out) hb); replace BK475 := zA (zB1 BK475.out hb); replace HB := zA (kQ (zT HB.out GE475.out) hb); (try clear hb); (try clear ho0); obtain ⟨Ao15, co15, eo15⟩ := Kd.V_slice HO482.out; subst eo15) | (refine zO (some 17) Tryd.func66 #[.slice Ao15 t480.length co15, .slice A1 l1.length c1] ?_; (with_reducible refine (impl_ties_partsOf.calls k _ _ t480 _ _ l1 t483 _ ?side1 ?side2 ?side3 ?side4 ?side5 A6.out).mono ?_); (case side1 => exact zS (kJ HO482.out).2.2); (case side2 => exact (kJ HO482.out).2.1); (case side3 => exact zS (kJ HO1.out).2.2); (case side4 => exact (kJ HO1.out).2.1); (case side5 => exact TabW.below HT.out (zT HB.out GE475.out)); rintro e w16 ⟨v484, rfl, ho0, hb⟩; refine ⟨_, rfl, ?_⟩; replace HO0_1 := zA (kK (zPV HO0_1.out) (Kd.N_base (Kd.S_N ho0)) hb); replace HO1 := zA (kK (zPV HO1.out) (Kd.N_base (Kd.S_N ho0)) hb); replace HO482 := zA (kK (zPV HO482.out) (Kd.N_base (Kd.S_N ho0)) hb); have HO485 := zA (jN (Kd.N_mono (ok' := fun k_ => ((P0_1_ k_ ∨ P1_ k_) ∨ w.heap.size ≤ k_) ∧ some k_ ≠ (.slice Ao11 y476.length co11 : Value).ownBlock ∧ k_ ≠ gb475) (Kd.S_N (Kd.S_bound ho0)) (fun k_ hk_ => ⟨(.inr (Nat.le_trans (kP (zT HB.out GE475.out)) hk_.2.1)), (jF (jA (zPN HO478.out)) k_ hk_.2.1), (jE (g := gb475) (o := .cells #[.int .i64 a0_0, .slice A0_1 l0_1.length c0_1] 26 (0, 0)) (zR BK475.out) k_ hk_.2.1)⟩)) (kP (zT HB.out GE475.out))); replace HO478 := zA (Kd.N_elder' (zPN HO478.out) (Kd.N_base (Kd.S_N ho0)) hb); replace BK475 := zA (zB1 BK475.out hb); replace HB := zA (kQ (zT HB.out GE475.out) hb); (try clear hb); (try clear ho0)))
  go_ret2
  exact ⟨_, zr, by (with_reducible repeat (first | apply Kd.N_alloc | apply Kd.N_drewN | apply Kd.N_drew)); exact Kd.N_mono HO485.out (fun _ hk => hk.1), zT HB.out GE475.out⟩
 rw [if_neg c4] at H
 obtain ⟨c4b0, c4b1⟩ := zT2 c4
 simp only [Option.some.injEq, Prod.mk.injEq] at H
 obtain ⟨rfl, rfl⟩ := H
 go_enter Tryd.func30, Tryd.ntmps30
 go_wp2_with (first | (refine zBE 2 #[.int .i64 a0_0, .slice A0_1 l0_1.length c0_1] 26 ?_; intro gb475 hg w17 hbox hb; replace HO0_1 := zA (kG (jD (zPV HO0_1.out) gb475 (Nat.le_of_eq hg.symm)) hb); replace HO1 := zA (kG (jD (zPV HO1.out) gb475 (Nat.le_of_eq hg.symm)) hb); have BK475 := zA (hbox); have GW475 := zA (zBH hg HB.out); have GE475 := zA (zBH hg HB.out); replace HB := zA (kQ (zQ HB.out) hb); clear hb hbox hg; obtain ⟨hcz18_0, hcz18_1, hfz18_0, hfz18_1⟩ := zB3 BK475.out) | ((with_reducible refine kS (N := 9) rfl ?_); refine Kd.N_lit (Kd.slice 2 (Kd.int .i64)) _ 24 ?hg (N' := 9) ?hd (xs := ([l1] : List (List Int))) (inner := [.slice A1 l1.length c1]) (ok := (fun k_ => ((P0_1_ k_ ∨ P1_ k_) ∨ w.heap.size ≤ k_) ∧ k_ ≠ gb475)) (okp := (fun k_ => ((P0_1_ k_ ∨ P1_ k_) ∨ w.heap.size ≤ k_) ∧ k_ ≠ gb475)) ?hr ?hp (fun _ hk => hk) ((show ∀ k_ : Nat, (_ : Nat) ≤ k_ → (fun k_ => ((P0_1_ k_ ∨ P1_ k_) ∨ w.heap.size ≤ k_) ∧ k_ ≠ gb475) k_ from fun k_ hk => ⟨(.inr (Nat.le_trans (kP (zT HB.out GE475.out)) hk)), jE (g := gb475) (o := .cells #[.int .i64 a0_0, .slice A0_1 l0_1.length c0_1] 26 (0, 0)) (zR BK475.out) k_ hk⟩) _ (Nat.le_refl _)) (kW _ _) (Nat.le_refl _) (by simp) ?_; (case hd => rfl); (case hg => rfl); (case hr => first | (go_simp; done) | (go_simp; rfl)); (case hp => exact (Reps.one (show Kd.FK (Kd.slice 2 (Kd.int .i64)) _ _ l1 [.slice A1 l1.length c1] from (zFK (kN (ok' := (fun k_ => ((P0_1_ k_ ∨ P1_ k_) ∨ w.heap.size ≤ k_) ∧ k_ ≠ gb475)) (HO1.out) (fun k_ hk => ⟨hk.1, hk.2⟩)))) (Reps.none _ _))); intro v477 w19 ho20 hb hg_ hnew_; clear hg_ hnew_; (first | rw [← Ny476.out] at ho20 | (simp only [Int.reduceToNat] at ho20; rw [← Ny476.out] at ho20)); replace HO0_1 := zA (kK (zPV HO0_1.out) (Kd.N_base ho20) hb); replace HO1 := zA (kK (zPV HO1.out) (Kd.N_base ho20) hb); have HO478 := zA (jN ho20 (kP (zT HB.out GE475.out))); replace BK475 := zA (zB1 BK475.out hb); replace HB := zA (kQ (zT HB.out GE475.out) hb); clear hb ho20; obtain ⟨Ao21, co21, eo21⟩ := Kd.N_slice HO478.out; subst eo21) | (refine zO (some 10) Tryd.func53 #[.agg #[.int .i64 a0_0, .slice A0_1 l0_1.length c0_1], .slice Ao21 y476.length co21] ?_; (with_reducible refine (impl_checkWords.calls k a0_0 _ _ l0_1 _ _ y476 t479 _ ?side1 ?side2 ?side3 ?side4 ?side5 A3.out).mono ?_); (case side1 => exact zS (kJ HO0_1.out).2.2); (case side2 => exact (kJ HO0_1.out).2.1); (case side3 => exact zS (Kd.N_reads' HO478.out).2.2); (case side4 => exact (Kd.N_reads' HO478.out).2.1); (case side5 => exact TabW.below HT.out (zT HB.out GE475.out)); rintro e w22 ⟨rfl, hb⟩; refine ⟨_, rfl, ?_⟩; replace HO0_1 := zA (kG (zPV HO0_1.out) hb); replace HO1 := zA (kG (zPV HO1.out) hb); replace HO478 := zA (kZ (zPN HO478.out) hb); replace BK475 := zA (zB1 BK475.out hb); replace HB := zA (kQ (zT HB.out GE475.out) hb); (try clear hb)))
 go_ret2
 exact ⟨_, zr, by first | exact Kd.S_nil _ _ _ _ _ | exact Kd.N_nil _ _ _ _ _ | exact Kd.V_nil _ _ _ _ _ | exact Kd.Q_nil _ _ _ _ _ | exact jO _ _ _ _ _, zT HB.out GE475.out⟩

/-! ### spec_l03Word: function 90 -/
def spec_l03Word.l0 : Nat → Int → List Int → Int → Option (Bool)
 | 0, _, _, _ => none
 | k + 1, x0, x1, x5 => if x5 < (x1.length : Int) then (if 0 ≤ x5 then ((spec_l01In.f (rd x1 x5) 0 (wrap64 (x0 - 1))).bind fun t487 => (if t487 = true then (spec_l03Word.l0 k x0 x1 (wrap64 (x5 + 1))) else (some false))) else (none)) else (some true)
def spec_l03Word.f (k : Nat) (a0 : Int) (l1 : List Int) : Option (Bool) := if (l1.length : Int) > 24 then (some false) else (spec_l03Word.l0 k a0 l1 0)

set_option maxHeartbeats 8000000 in
set_option maxRecDepth 100000 in
theorem spec_l03Word.calls (k : Nat) (a0 : Int) (A1 : Option Addr) (c1 : Nat) (l1 : List Int) (r : Bool) (w : World) (hr1 : Kd.C (Kd.int .i64) w A1 l1.length l1) (hc1 : l1.length ≤ c1) (h : spec_l03Word.f k a0 l1 = some r) :
  Calls Tryd.prog 90 #[.int .i64 a0, .slice A1 l1.length c1] w fun e w' => e = .returned (.bool r) ∧ Drawn0 w w' := by
 have HR1 := zA hr1
 have HC1 := zA hc1
 clear hr1 hc1
 have H := h
 unfold spec_l03Word.f at H
 clear h
 by_cases c3 : (l1.length : Int) > 24
 ·rw [if_pos c3] at H
  have c3b0 : decide (24 < (l1.length : Int)) = true := decide_eq_true c3
  have c3b1 : decide (24 < l1.length) = true := decide_eq_true (by omega)
  clear c3
  obtain rfl := Option.some.inj H
  go_enter Tryd.func90, Tryd.ntmps90
  go_wp2
  go_ret
  exact ⟨zs, by repeat (first | exact Drawn0.refl _ | apply Drawn0.step)⟩
 rw [if_neg c3] at H
 have c3b0 : decide (24 < (l1.length : Int)) = false := decide_eq_false c3
 have c3b1 : decide (24 < l1.length) = false := decide_eq_false (by omega)
 clear c3
 have H' := zA H
 clear H
 go_enter Tryd.func90, Tryd.ntmps90
 go_wp2
 go_loopg [5] k (fun kq v5 w' => ∃ (x5_1 : Int), v5 = .int .i64 x5_1 ∧ Aside0 (spec_l03Word.l0 kq a0 l1 x5_1 = some r) ∧ Aside0 (kq ≤ k) ∧ Drawn0 w w')
 case atStart => exact ⟨(0), zs, H', ⟨Nat.le_refl _⟩, by repeat (first | exact Drawn0.refl _ | apply Drawn0.step)⟩
 case round =>
  clear H'
  try clear c1
  try clear c3
  obtain ⟨x5_1, rfl, HA, HK1, ⟨m1, rfl⟩⟩ := hrel
  cases gk with
  | zero => exact absurd HA.out (by simp [spec_l03Word.l0])
  | succ k1 =>
   have H := HA.out
   clear HA
   simp only [spec_l03Word.l0] at H
   by_cases c4 : x5_1 < (l1.length : Int)
   ·rw [if_pos c4] at H
    have c4b0 : decide (x5_1 < (l1.length : Int)) = true := decide_eq_true c4
    clear c4
    by_cases c5 : 0 ≤ x5_1
    ·rw [if_pos c5] at H
     have c5b0 : decide (0 ≤ x5_1) = true := decide_eq_true c5
     clear c5
     obtain ⟨t487, A6, H⟩ := zb H
     try dsimp only at H
     by_cases c7 : t487 = true
     ·subst c7
      rw [if_pos rfl] at H
      have H' := zA H
      clear H
      have p486 : 0 ≤ (x5_1 : Int) := zd
      have q486 : x5_1 < (l1.length : Int) := zd
      obtain ⟨ad486, e486, hx486_0⟩ := Kd.at_int HR1.out x5_1 p486 q486
      cases e486
      replace p486 := eq_true p486
      replace q486 := eq_true q486
      go_wp2_with (first | (refine zO (some 21) Tryd.func70 #[.int .i64 (rd l1 x5_1), .int .i64 0, .int .i64 (wrap64 (a0 - 1))] ?_; (with_reducible refine (spec_l01In.calls (rd l1 x5_1) 0 (wrap64 (a0 - 1)) true _ A6.out).mono ?_); rintro e w' ⟨rfl, ⟨nd, rfl⟩⟩; refine ⟨_, rfl, ?_⟩))
      go_roundg k1
      case measure => have := HK1.out; omega
      case rel => exact ⟨(wrap64 (x5_1 + 1)), zs, H', ⟨by have := HK1.out; omega⟩, by repeat (first | exact Drawn0.refl _ | apply Drawn0.step)⟩
     replace c7 := Bool.eq_false_iff.mpr c7
     subst c7
     rw [if_neg (show ¬ (false = true) by decide)] at H
     obtain rfl := Option.some.inj H
     have p486 : 0 ≤ (x5_1 : Int) := zd
     have q486 : x5_1 < (l1.length : Int) := zd
     obtain ⟨ad486, e486, hx486_0⟩ := Kd.at_int HR1.out x5_1 p486 q486
     cases e486
     replace p486 := eq_true p486
     replace q486 := eq_true q486
     go_wp2_with (first | (refine zO (some 21) Tryd.func70 #[.int .i64 (rd l1 x5_1), .int .i64 0, .int .i64 (wrap64 (a0 - 1))] ?_; (with_reducible refine (spec_l01In.calls (rd l1 x5_1) 0 (wrap64 (a0 - 1)) false _ A6.out).mono ?_); rintro e w' ⟨rfl, ⟨nd, rfl⟩⟩; refine ⟨_, rfl, ?_⟩))
     go_ret
     exact ⟨zs, by repeat (first | exact Drawn0.refl _ | apply Drawn0.step)⟩
    rw [if_neg c5] at H
    exact absurd H (by simp)
   rw [if_neg c4] at H
   have c4b0 : decide (x5_1 < (l1.length : Int)) = false := decide_eq_false c4
   clear c4
   obtain rfl := Option.some.inj H
   go_wp2
   go_ret
   exact ⟨zs, by repeat (first | exact Drawn0.refl _ | apply Drawn0.step)⟩

/-! ### spec_l03Code: function 60 -/
def spec_l03Code.f (k : Nat) (a0_0 : Int) (l0_1 : List Int) (l1 : List Int) (l2 : List Int) : Option (Int) := (spec_l02Is.f k a0_0 l0_1).bind fun t489 => (if t489 = true then ((spec_l03Word.f k a0_0 l1).bind fun t490 => (if t490 = true then ((spec_l03Word.f k a0_0 l2).bind fun t491 => (if t491 = true then (some 0) else (some 2))) else (some 2))) else (some 1))

set_option maxHeartbeats 8000000 in
set_option maxRecDepth 100000 in
theorem spec_l03Code.calls (k : Nat) (a0_0 : Int) (A0_1 : Option Addr) (c0_1 : Nat) (l0_1 : List Int) (A1 : Option Addr) (c1 : Nat) (l1 : List Int) (A2 : Option Addr) (c2 : Nat) (l2 : List Int) (r : Int) (w : World) (hr0_1 : Kd.C (Kd.int .i64) w A0_1 l0_1.length l0_1) (hc0_1 : l0_1.length ≤ c0_1) (hr1 : Kd.C (Kd.int .i64) w A1 l1.length l1) (hc1 : l1.length ≤ c1) (hr2 : Kd.C (Kd.int .i64) w A2 l2.length l2) (hc2 : l2.length ≤ c2) (h : spec_l03Code.f k a0_0 l0_1 l1 l2 = some r) :
  Calls Tryd.prog 60 #[.agg #[.int .i64 a0_0, .slice A0_1 l0_1.length c0_1], .slice A1 l1.length c1, .slice A2 l2.length c2] w fun e w' => e = .returned (.int .i64 r) ∧ Below w.heap.size w w' := by
 have hu26 := Tryd.underlying26
 have HR0_1 := zA hr0_1
 have HC0_1 := zA hc0_1
 clear hr0_1 hc0_1
 have HR1 := zA hr1
 have HC1 := zA hc1
 clear hr1 hc1
 have HR2 := zA hr2
 have HC2 := zA hc2
 clear hr2 hc2
 have HB := zA (kW w.heap.size w)
 have H := h
 unfold spec_l03Code.f at H
 clear h
 obtain ⟨t489, A4, H⟩ := zb H
 try dsimp only at H
 by_cases c5 : t489 = true
 ·subst c5
  rw [if_pos rfl] at H
  obtain ⟨t490, A6, H⟩ := zb H
  try dsimp only at H
  by_cases c7 : t490 = true
  ·subst c7
   rw [if_pos rfl] at H
   obtain ⟨t491, A8, H⟩ := zb H
   try dsimp only at H
   by_cases c9 : t491 = true
   ·subst c9
    rw [if_pos rfl] at H
    obtain rfl := Option.some.inj H
    go_enter Tryd.func60, Tryd.ntmps60
    go_wp2_with (first | (refine zBE 3 #[.int .i64 a0_0, .slice A0_1 l0_1.length c0_1] 26 ?_; intro gb488 hg w10 hbox hb; have BK488 := zA (hbox); have GW488 := zA (zBH hg HB.out); have GE488 := zA (zBH hg HB.out); replace HB := zA (kQ (zQ HB.out) hb); clear hb hbox hg; obtain ⟨hcz11_0, hcz11_1, hfz11_0, hfz11_1⟩ := zB3 BK488.out) | (refine zO (some 8) Tryd.func69 #[.agg #[.int .i64 a0_0, .slice A0_1 l0_1.length c0_1]] ?_; (with_reducible refine (spec_l02Is.calls k a0_0 _ _ l0_1 true _ ?side1 ?side2 A4.out).mono ?_); (case side1 => exact zS (kO HR0_1.out HB.out)); (case side2 => exact HC0_1.out); rintro e w12 ⟨rfl, hb⟩; refine ⟨_, rfl, ?_⟩; replace BK488 := zA (zB1 BK488.out hb); replace HB := zA (kQ (zT HB.out GE488.out) hb); (try clear hb); obtain ⟨hcz13_0, hcz13_1, hfz13_0, hfz13_1⟩ := zB3 BK488.out) | (refine zO (some 13) Tryd.func90 #[.int .i64 a0_0, .slice A1 l1.length c1] ?_; (with_reducible refine (spec_l03Word.calls k a0_0 _ _ l1 true _ ?side1 ?side2 A6.out).mono ?_); (case side1 => exact zS (kO HR1.out HB.out)); (case side2 => exact HC1.out); rintro e w' ⟨rfl, ⟨nd, rfl⟩⟩; refine ⟨_, rfl, ?_⟩) | (go_at_call 90; (with_reducible refine (spec_l03Word.calls k a0_0 _ _ l2 true _ ?side1 ?side2 A8.out).mono ?_); (case side1 => exact zS (kO HR2.out (zT HB.out GE488.out))); (case side2 => exact HC2.out); rintro e w' ⟨rfl, ⟨nd, rfl⟩⟩))
    go_ret
    exact ⟨zr, zT HB.out GE488.out⟩
   replace c9 := Bool.eq_false_iff.mpr c9
   subst c9
   rw [if_neg (show ¬ (false = true) by decide)] at H
   obtain rfl := Option.some.inj H
   go_enter Tryd.func60, Tryd.ntmps60
   go_wp2_with (first | (refine zBE 3 #[.int .i64 a0_0, .slice A0_1 l0_1.length c0_1] 26 ?_; intro gb488 hg w14 hbox hb; have BK488 := zA (hbox); have GW488 := zA (zBH hg HB.out); have GE488 := zA (zBH hg HB.out); replace HB := zA (kQ (zQ HB.out) hb); clear hb hbox hg; obtain ⟨hcz15_0, hcz15_1, hfz15_0, hfz15_1⟩ := zB3 BK488.out) | (refine zO (some 8) Tryd.func69 #[.agg #[.int .i64 a0_0, .slice A0_1 l0_1.length c0_1]] ?_; (with_reducible refine (spec_l02Is.calls k a0_0 _ _ l0_1 true _ ?side1 ?side2 A4.out).mono ?_); (case side1 => exact zS (kO HR0_1.out HB.out)); (case side2 => exact HC0_1.out); rintro e w16 ⟨rfl, hb⟩; refine ⟨_, rfl, ?_⟩; replace BK488 := zA (zB1 BK488.out hb); replace HB := zA (kQ (zT HB.out GE488.out) hb); (try clear hb); obtain ⟨hcz17_0, hcz17_1, hfz17_0, hfz17_1⟩ := zB3 BK488.out) | (refine zO (some 13) Tryd.func90 #[.int .i64 a0_0, .slice A1 l1.length c1] ?_; (with_reducible refine (spec_l03Word.calls k a0_0 _ _ l1 true _ ?side1 ?side2 A6.out).mono ?_); (case side1 => exact zS (kO HR1.out HB.out)); (case side2 => exact HC1.out); rintro e w' ⟨rfl, ⟨nd, rfl⟩⟩; refine ⟨_, rfl, ?_⟩) | (go_at_call 90; (with_reducible refine (spec_l03Word.calls k a0_0 _ _ l2 false _ ?side1 ?side2 A8.out).mono ?_); (case side1 => exact zS (kO HR2.out (zT HB.out GE488.out))); (case side2 => exact HC2.out); rintro e w' ⟨rfl, ⟨nd, rfl⟩⟩))
   go_ret
   exact ⟨zr, zT HB.out GE488.out⟩
  replace c7 := Bool.eq_false_iff.mpr c7
  subst c7
  rw [if_neg (show ¬ (false = true) by decide)] at H
  obtain rfl := Option.some.inj H
  go_enter Tryd.func60, Tryd.ntmps60
  go_wp2_with (first | (refine zBE 3 #[.int .i64 a0_0, .slice A0_1 l0_1.length c0_1] 26 ?_; intro gb488 hg w18 hbox hb; have BK488 := zA (hbox); have GW488 := zA (zBH hg HB.out); have GE488 := zA (zBH hg HB.out); replace HB := zA (kQ (zQ HB.out) hb); clear hb hbox hg; obtain ⟨hcz19_0, hcz19_1, hfz19_0, hfz19_1⟩ := zB3 BK488.out) | (refine zO (some 8) Tryd.func69 #[.agg #[.int .i64 a0_0, .slice A0_1 l0_1.length c0_1]] ?_; (with_reducible refine (spec_l02Is.calls k a0_0 _ _ l0_1 true _ ?side1 ?side2 A4.out).mono ?_); (case side1 => exact zS (kO HR0_1.out HB.out)); (case side2 => exact HC0_1.out); rintro e w20 ⟨rfl, hb⟩; refine ⟨_, rfl, ?_⟩; replace BK488 := zA (zB1 BK488.out hb); replace HB := zA (kQ (zT HB.out GE488.out) hb); (try clear hb); obtain ⟨hcz21_0, hcz21_1, hfz21_0, hfz21_1⟩ := zB3 BK488.out) | (refine zO (some 13) Tryd.func90 #[.int .i64 a0_0, .slice A1 l1.length c1] ?_; (with_reducible refine (spec_l03Word.calls k a0_0 _ _ l1 false _ ?side1 ?side2 A6.out).mono ?_); (case side1 => exact zS (kO HR1.out HB.out)); (case side2 => exact HC1.out); rintro e w' ⟨rfl, ⟨nd, rfl⟩⟩; refine ⟨_, rfl, ?_⟩))
  go_ret
  exact ⟨zr, zT HB.out GE488.out⟩
 replace c5 := Bool.eq_false_iff.mpr c5
 subst c5
 rw [if_neg (show ¬ (false = true) by decide)] at H
 obtain rfl := Option.some.inj H
 go_enter Tryd.func60, Tryd.ntmps60
 go_wp2_with (first | (refine zBE 3 #[.int .i64 a0_0, .slice A0_1 l0_1.length c0_1] 26 ?_; intro gb488 hg w22 hbox hb; have BK488 := zA (hbox); have GW488 := zA (zBH hg HB.out); have GE488 := zA (zBH hg HB.out); replace HB := zA (kQ (zQ HB.out) hb); clear hb hbox hg; obtain ⟨hcz23_0, hcz23_1, hfz23_0, hfz23_1⟩ := zB3 BK488.out) | (refine zO (some 8) Tryd.func69 #[.agg #[.int .i64 a0_0, .slice A0_1 l0_1.length c0_1]] ?_; (with_reducible refine (spec_l02Is.calls k a0_0 _ _ l0_1 false _ ?side1 ?side2 A4.out).mono ?_); (case side1 => exact zS (kO HR0_1.out HB.out)); (case side2 => exact HC0_1.out); rintro e w24 ⟨rfl, hb⟩; refine ⟨_, rfl, ?_⟩; replace BK488 := zA (zB1 BK488.out hb); replace HB := zA (kQ (zT HB.out GE488.out) hb); (try clear hb)))
 go_ret
 exact ⟨zr, zT HB.out GE488.out⟩

/-! ### spec_l01Own: function 52 -/
def spec_l01Own.f (l0 : List Int) : Option (List Int) := (some (([] : List Int) : List Int)).bind fun y492 => (if y492.length + l0.length < 17592186044416 then (some (y492 ++ l0)) else (none))
set_option maxHeartbeats 8000000 in
set_option maxRecDepth 100000 in
theorem spec_l01Own.calls (A0 : Option Addr) (c0 : Nat) (l0 : List Int) (r : List Int) (w : World) (hr0 : Kd.C (Kd.int .i64) w A0 l0.length l0) (hc0 : l0.length ≤ c0) (h : spec_l01Own.f l0 = some r) :
  Calls Tryd.prog 52 #[.slice A0 l0.length c0] w fun e w' => ∃ v0_ : Value, e = .returned (v0_) ∧ Kd.R (Kd.int .i64) 2 w' w.heap.size (fun _ => True) v0_ r ∧ Below w.heap.size w w' := by
 have HR0 := zA hr0
 have HC0 := zA hc0
 clear hr0 hc0
 have HB := zA (kW w.heap.size w)
 have H := h
 unfold spec_l01Own.f at H
 clear h
 obtain ⟨y492, hy492⟩ : ∃ y_ : List Int, y_ = (([] : List Int)) := ⟨_, rfl⟩
 replace H : (if y492.length + l0.length < 17592186044416 then (some (y492 ++ l0)) else (none)) = some r := zy hy492 H
 have Ny492 := zA hy492
 clear hy492
 by_cases c2 : y492.length + l0.length < 17592186044416
 ·rw [if_pos c2] at H
  have LMc2 := zA c2
  clear c2
  obtain ⟨y495, hy495⟩ : ∃ y_ : List Int, y_ = (y492 ++ l0) := ⟨_, rfl⟩
  replace H : (some y495) = some r := zy hy495 H
  have Ny495 := zA hy495
  clear hy495
  obtain rfl := Option.some.inj H
  go_enter Tryd.func52, Tryd.ntmps52
  go_wp2_with (first | ((with_reducible refine kS (N := 3) rfl ?_); refine Kd.R_lit (Kd.int .i64) _ 2 ?hg (N := 3) ?hd (xs := ([] : List Int)) (inner := []) (ok := fun _ => True) (okp := fun _ => True) ?hr ?hp (fun _ hk => hk) trivial (kW _ _) (Nat.le_refl _) (by simp) ?_; (case hd => rfl); (case hg => rfl); (case hr => first | (go_simp; done) | (go_simp; rfl)); (case hp => exact (Reps.none _ _)); intro v493 w3 ho4 hb hg_ hnew_; clear hg_ hnew_; (first | rw [← Ny492.out] at ho4 | (simp only [Int.reduceToNat] at ho4; rw [← Ny492.out] at ho4)); have HO494 := zA (kI ho4 (kP (zQ HB.out))); replace HB := zA (kQ (zQ HB.out) hb); clear hb ho4) | ((with_reducible refine gate_builtin (b := .append) (xs := #[.tmp 3, .tmp 4]) rfl ?_); at_builtin; refine Kd.R_append_rows (Kd.int .i64) (w0 := w) w.heap.size rfl (.tmp 3) (.tmp 4) 24 2 (.int .i64 0) 8 rfl Tryd.underlying24 info2 rfl (by decide) (by omega) v493 y492 l0 _ _ _ (fun _ => True) (fun _ => False) rfl rfl ?aO ?aR (fun _ _ h => h) (fun _ h => h.elim) ?aF ?aB ?aS ?aL ?_; (case aR => exact zS (kO HR0.out HB.out)); (case aB => exact (zQ HB.out)); (case aF => exact (fun _ _ => trivial)); (case aO => exact (zP HO494.out)); (case aS => exact (kP (zQ HB.out))); (case aL => have := LMc2.out; omega); intro v496 w5 ho hb hg hat; rw [← Ny495.out] at ho; replace HB := zA (hb); have HO497 := zA (ho); clear HO494; clear ho hb hg hat))
  go_ret
  exact ⟨_, zr, zP HO497.out, zQ HB.out⟩
 rw [if_neg c2] at H
 exact absurd H (by simp)

/-! ### spec_l02Dep: function 87 -/
def spec_l02Dep.f (a0_0 : Int) (l0_1 : List Int) (a1 : Int) (a2 : Int) : Option (Bool) := if 0 ≤ a1 then (if a1 < (l0_1.length : Int) then ((spec_l01Bit.f (rd l0_1 a1) a2).bind fun t500 => (some t500)) else (none)) else (none)
set_option maxHeartbeats 8000000 in
set_option maxRecDepth 100000 in
theorem spec_l02Dep.calls (a0_0 : Int) (A0_1 : Option Addr) (c0_1 : Nat) (l0_1 : List Int) (a1 : Int) (a2 : Int) (r : Bool) (w : World) (hr0_1 : Kd.C (Kd.int .i64) w A0_1 l0_1.length l0_1) (hc0_1 : l0_1.length ≤ c0_1) (h : spec_l02Dep.f a0_0 l0_1 a1 a2 = some r) :
  Calls Tryd.prog 87 #[.agg #[.int .i64 a0_0, .slice A0_1 l0_1.length c0_1], .int .i64 a1, .int .i64 a2] w fun e w' => e = .returned (.bool r) ∧ Below w.heap.size w w' := by
 have hu26 := Tryd.underlying26
 have HR0_1 := zA hr0_1
 have HC0_1 := zA hc0_1
 clear hr0_1 hc0_1
 have HB := zA (kW w.heap.size w)
 have H := h
 unfold spec_l02Dep.f at H
 clear h
 by_cases c4 : 0 ≤ a1
 ·rw [if_pos c4] at H
  have c4b0 : decide (0 ≤ a1) = true := decide_eq_true c4
  clear c4
  by_cases c5 : a1 < (l0_1.length : Int)
  ·rw [if_pos c5] at H
   have c5b0 : decide (a1 < (l0_1.length : Int)) = true := decide_eq_true c5
   clear c5
   obtain ⟨t500, A6, H⟩ := zb H
   try dsimp only at H
   obtain rfl := Option.some.inj H
   go_enter Tryd.func87, Tryd.ntmps87
   go_wp2_with (first | (refine zBE 3 #[.int .i64 a0_0, .slice A0_1 l0_1.length c0_1] 26 ?_; intro gb498 hg w7 hbox hb; have BK498 := zA (hbox); have GW498 := zA (zBH hg HB.out); have GE498 := zA (zBH hg HB.out); replace HB := zA (kQ (zQ HB.out) hb); clear hb hbox hg; obtain ⟨hcz8_0, hcz8_1, hfz8_0, hfz8_1⟩ := zB3 BK498.out; have p499 : 0 ≤ (a1 : Int) := zd; have q499 : a1 < (l0_1.length : Int) := zd; obtain ⟨ad499, e499, hx499_0⟩ := Kd.at_int HR0_1.out a1 p499 q499; cases e499; replace hx499_0 := (HB.out.cell (jG w _ hx499_0)).trans hx499_0; replace p499 := eq_true p499; replace q499 := eq_true q499) | (refine zO (some 13) Tryd.func72 #[.int .i64 (rd l0_1 a1), .int .i64 a2] ?_; (with_reducible refine (spec_l01Bit.calls (rd l0_1 a1) a2 t500 _ A6.out).mono ?_); rintro e w' ⟨rfl, ⟨nd, rfl⟩⟩; refine ⟨_, rfl, ?_⟩))
   go_ret
   exact ⟨zr, zT HB.out GE498.out⟩
  rw [if_neg c5] at H
  exact absurd H (by simp)
 rw [if_neg c4] at H
 exact absurd H (by simp)

/-! ### spec_l03First: function 91 -/
def spec_l03First.l0 : Nat → List Int → Int → Int → Int → List Int → Option (Int)
 | 0, _, _, _, _, _ => none
 | k + 1, x1, x2, x7, x502000, x502001 => if x7 < (x1.length : Int) then (if 0 ≤ x7 then (if (rd x1 x7) = x2 then (some x7) else ((spec_l02Dep.f x502000 x502001 (rd x1 x7) x2).bind fun t504 => (if t504 = true then (some (-1)) else (spec_l03First.l0 k x1 x2 (wrap64 (x7 + 1)) x502000 x502001)))) else (none)) else (some (-1))
def spec_l03First.f (k : Nat) (a0_0 : Int) (l0_1 : List Int) (l1 : List Int) (a2 : Int) : Option (Int) := spec_l03First.l0 k l1 a2 0 a0_0 l0_1

set_option maxHeartbeats 8000000 in
set_option maxRecDepth 100000 in
theorem spec_l03First.calls (k : Nat) (a0_0 : Int) (A0_1 : Option Addr) (c0_1 : Nat) (l0_1 : List Int) (A1 : Option Addr) (c1 : Nat) (l1 : List Int) (a2 : Int) (r : Int) (w : World) (hr0_1 : Kd.C (Kd.int .i64) w A0_1 l0_1.length l0_1) (hc0_1 : l0_1.length ≤ c0_1) (hr1 : Kd.C (Kd.int .i64) w A1 l1.length l1) (hc1 : l1.length ≤ c1) (h : spec_l03First.f k a0_0 l0_1 l1 a2 = some r) :
  Calls Tryd.prog 91 #[.agg #[.int .i64 a0_0, .slice A0_1 l0_1.length c0_1], .slice A1 l1.length c1, .int .i64 a2] w fun e w' => e = .returned (.int .i64 r) ∧ Below w.heap.size w w' := by
 have hu26 := Tryd.underlying26
 have HR0_1 := zA hr0_1
 have HC0_1 := zA hc0_1
 clear hr0_1 hc0_1
 have HR1 := zA hr1
 have HC1 := zA hc1
 clear hr1 hc1
 have HB := zA (kW w.heap.size w)
 have H := h
 unfold spec_l03First.f at H
 clear h
 have H' := zA H
 clear H
 go_enter Tryd.func91, Tryd.ntmps91
 go_wp2_with (first | (refine zBE 3 #[.int .i64 a0_0, .slice A0_1 l0_1.length c0_1] 26 ?_; intro gb501 hg w4 hbox hb; have BK501 := zA (hbox); have GW501 := zA (zBH hg HB.out); have GE501 := zA (zBH hg HB.out); replace HB := zA (kQ (zQ HB.out) hb); clear hb hbox hg))
 go_loopg [7] k (fun kq v7 w' => ∃ (x7_1 : Int), v7 = .int .i64 x7_1 ∧ Aside0 (spec_l03First.l0 kq l1 a2 x7_1 a0_0 l0_1 = some r) ∧ Aside0 (kq ≤ k) ∧ Aside0 (w'.heap[gb501]? = some (.cells #[.int .i64 a0_0, (.slice A0_1 l0_1.length c0_1)] 26 (0, 0))) ∧ Aside0 (Below w.heap.size w w'))
 case atStart => exact ⟨(0), zs, H', ⟨Nat.le_refl _⟩, ⟨zR BK501.out⟩, ⟨zT HB.out GE501.out⟩⟩
 case round =>
  clear H'
  try clear c1
  obtain ⟨x7_1, rfl, HA, HK1, BK501, HB⟩ := hrel
  cases gk with
  | zero => exact absurd HA.out (by simp [spec_l03First.l0])
  | succ k1 =>
   have H := HA.out
   clear HA
   simp only [spec_l03First.l0] at H
   by_cases c5 : x7_1 < (l1.length : Int)
   ·rw [if_pos c5] at H
    have c5b0 : decide (x7_1 < (l1.length : Int)) = true := decide_eq_true c5
    clear c5
    by_cases c6 : 0 ≤ x7_1
    ·rw [if_pos c6] at H
     have c6b0 : decide (0 ≤ x7_1) = true := decide_eq_true c6
     clear c6
     by_cases c7 : (rd l1 x7_1) = a2
     ·rw [if_pos c7] at H
      obtain ⟨c7b0, c7b1⟩ := zT1 c7
      clear c7
      obtain rfl := Option.some.inj H
      have p502 : 0 ≤ (x7_1 : Int) := zd
      have q502 : x7_1 < (l1.length : Int) := zd
      obtain ⟨ad502, e502, hx502_0⟩ := Kd.at_int HR1.out x7_1 p502 q502
      cases e502
      replace hx502_0 := (HB.out.cell (jG w _ hx502_0)).trans hx502_0
      replace p502 := eq_true p502
      replace q502 := eq_true q502
      go_wp2
      go_ret
      exact ⟨zr, zT HB.out GE501.out⟩
     rw [if_neg c7] at H
     obtain ⟨c7b0, c7b1⟩ := zT2 c7
     obtain ⟨t504, A8, H⟩ := zb H
     try dsimp only at H
     by_cases c9 : t504 = true
     ·subst c9
      rw [if_pos rfl] at H
      obtain rfl := Option.some.inj H
      have p502 : 0 ≤ (x7_1 : Int) := zd
      have q502 : x7_1 < (l1.length : Int) := zd
      obtain ⟨ad502, e502, hx502_0⟩ := Kd.at_int HR1.out x7_1 p502 q502
      cases e502
      replace hx502_0 := (HB.out.cell (jG w _ hx502_0)).trans hx502_0
      replace p502 := eq_true p502
      replace q502 := eq_true q502
      try go_wp2
      replace BK501 := zA (zK BK501.out)
      replace HB := zA (zD HB.out)
      have p503 : 0 ≤ (x7_1 : Int) := zd
      have q503 : x7_1 < (l1.length : Int) := zd
      obtain ⟨ad503, e503, hx503_0⟩ := Kd.at_int HR1.out x7_1 p503 q503
      have hw503_0 := hx503_0
      obtain rfl : ad502 = ad503 := (by injection e503)
      replace hx503_0 := (HB.out.cell (jG w _ hx503_0)).trans hx503_0
      replace p503 := eq_true p503
      replace q503 := eq_true q503
      refine start_ (n := 7) (S := fun w' => w'.cell? ⟨gb501, 0, none⟩ = some (.int .i64 a0_0) ∧ w'.cell? ⟨gb501, 1, none⟩ = some (.slice A0_1 l0_1.length c0_1) ∧ w'.cell? (ad502.add (x7_1).toNat) = some (.int .i64 (rd l1 x7_1))) (ds := []) #[false, false, false, false, false, false, false] (by kernel_rfl) rfl rfl ⟨(kV BK501.out 0).trans rfl, (kV BK501.out 1).trans rfl, (pw_cell_below HB.out hw503_0)⟩ (fun hHeld => ?_)
      generalize wr.drew = w10 at BK501 HB hx503_0 hHeld ⊢
      refine pure_ (i := 1) (N := some 22) (v := ?_) (a' := ?_) #[false, true, false, false, false, false, false] rfl rfl (by kernel_rfl) (fun _ _ _ h => h) (Or.inl ⟨by rfl, ?_⟩) ?_ ?_
      rotate_left
      ·intro w'
       go_simp
       with_reducible rfl
      rotate_left
      ·simp only [Act.put, zL, zM, zN, i64_w, i32_w]
       rfl
      refine pure_ (i := 2) (N := some 23) (v := ?_) (a' := ?_) #[false, true, true, false, false, false, false] rfl rfl (by kernel_rfl) (fun _ _ _ h => h) (Or.inl ⟨by rfl, ?_⟩) ?_ ?_
      rotate_left
      ·intro w'
       go_simp
       with_reducible rfl
      rotate_left
      ·simp only [Act.put, zL, zM, zN, i64_w, i32_w]
       rfl
      refine pure_ (i := 3) (N := some 24) (v := ?_) (a' := ?_) #[false, true, true, true, false, false, false] rfl rfl (by kernel_rfl) (fun _ _ _ h => h) (Or.inl ⟨by rfl, ?_⟩) ?_ ?_
      rotate_left
      ·intro w'
       go_simp
       with_reducible rfl
      rotate_left
      ·simp only [Act.put, zL, zM, zN, i64_w, i32_w]
       rfl
      refine pure_ (i := 5) (N := some 26) (v := ?_) (a' := ?_) #[false, true, true, true, false, true, false] rfl rfl (by kernel_rfl) (fun _ _ _ h => h) (Or.inl ⟨by rfl, ?_⟩) ?_ ?_
      rotate_left
      ·intro w'
       go_simp
       with_reducible rfl
      rotate_left
      ·simp only [Act.put, zL, zM, zN, i64_w, i32_w]
       rfl
      refine take_ (i := 0) (N := some 21) (v := ?_) (a' := ?_) #[true, true, true, true, false, true, false] rfl rfl (by kernel_rfl) (fun _ _ _ h => h) (Or.inl ⟨by rfl, ?_⟩) hHeld ?_ ?_
      rotate_left
      ·rintro w' ⟨s0, s1, s2⟩
       go_simp
       with_reducible rfl
      rotate_left
      ·simp only [Act.put, zL, zM, zN, i64_w, i32_w]
       rfl
      refine take_ (i := 4) (N := some 25) (v := ?_) (a' := ?_) #[true, true, true, true, true, true, false] rfl rfl (by kernel_rfl) (fun _ _ _ h => h) (Or.inl ⟨by rfl, ?_⟩) hHeld ?_ ?_
      rotate_left
      ·rintro w' ⟨s0, s1, s2⟩
       go_simp
       with_reducible rfl
      rotate_left
      ·simp only [Act.put, zL, zM, zN, i64_w, i32_w]
       rfl
      refine one_ (i := 6) (N := some 27) #[true, true, true, true, true, true, true] rfl rfl (by kernel_rfl) (by decide) (fun K hK => ?_)
      refine goes_ Tryd.func87 (by kernel_rfl) rfl #[.agg #[.int .i64 a0_0, .slice A0_1 l0_1.length c0_1], .int .i64 (rd l1 x7_1), .int .i64 a2] (by rfl) rfl rfl zg ?_
      with_reducible refine (spec_l02Dep.calls a0_0 _ _ l0_1 (rd l1 x7_1) a2 true _ ?side1 ?side2 A8.out).mono ?_
      (case side1 => exact zS (kO HR0_1.out HB.out))
      (case side2 => exact HC0_1.out)
      rintro e w11 ⟨rfl, hb⟩
      refine ⟨_, rfl, ?_⟩
      replace BK501 := zA (zB1 BK501.out hb)
      replace HB := zA (kQ (zT HB.out GE501.out) hb)
      (try clear hb)
      (try clear hb2)
      (try clear hk)
      (try clear hi)
      (try clear hgw)
      refine hK.out _ _ ⟨(kV BK501.out 0).trans rfl, (kV BK501.out 1).trans rfl, (pw_cell_below HB.out hw503_0)⟩ (fun hHeld => ?_)
      clear hK K
      refine norm_ (a' := ?_) ?_ ?_
      rotate_left
      ·show Act.put _ (some 27) _ = _
       simp only [Act.put, zL, zM, zN, i64_w, i32_w]
       rfl
      refine done_ (by kernel_rfl) ?_
      try go_wp2
      go_ret
      exact ⟨zr, zT HB.out GE501.out⟩
     replace c9 := Bool.eq_false_iff.mpr c9
     subst c9
     rw [if_neg (show ¬ (false = true) by decide)] at H
     have H' := zA H
     clear H
     have p502 : 0 ≤ (x7_1 : Int) := zd
     have q502 : x7_1 < (l1.length : Int) := zd
     obtain ⟨ad502, e502, hx502_0⟩ := Kd.at_int HR1.out x7_1 p502 q502
     cases e502
     replace hx502_0 := (HB.out.cell (jG w _ hx502_0)).trans hx502_0
     replace p502 := eq_true p502
     replace q502 := eq_true q502
     try go_wp2
     replace BK501 := zA (zK BK501.out)
     replace HB := zA (zD HB.out)
     have p503 : 0 ≤ (x7_1 : Int) := zd
     have q503 : x7_1 < (l1.length : Int) := zd
     obtain ⟨ad503, e503, hx503_0⟩ := Kd.at_int HR1.out x7_1 p503 q503
     have hw503_0 := hx503_0
     obtain rfl : ad502 = ad503 := (by injection e503)
     replace hx503_0 := (HB.out.cell (jG w _ hx503_0)).trans hx503_0
     replace p503 := eq_true p503
     replace q503 := eq_true q503
     refine start_ (n := 7) (S := fun w' => w'.cell? ⟨gb501, 0, none⟩ = some (.int .i64 a0_0) ∧ w'.cell? ⟨gb501, 1, none⟩ = some (.slice A0_1 l0_1.length c0_1) ∧ w'.cell? (ad502.add (x7_1).toNat) = some (.int .i64 (rd l1 x7_1))) (ds := []) #[false, false, false, false, false, false, false] (by kernel_rfl) rfl rfl ⟨(kV BK501.out 0).trans rfl, (kV BK501.out 1).trans rfl, (pw_cell_below HB.out hw503_0)⟩ (fun hHeld => ?_)
     generalize wr.drew = w12 at BK501 HB hx503_0 hHeld ⊢
     refine pure_ (i := 1) (N := some 22) (v := ?_) (a' := ?_) #[false, true, false, false, false, false, false] rfl rfl (by kernel_rfl) (fun _ _ _ h => h) (Or.inl ⟨by rfl, ?_⟩) ?_ ?_
     rotate_left
     ·intro w'
      go_simp
      with_reducible rfl
     rotate_left
     ·simp only [Act.put, zL, zM, zN, i64_w, i32_w]
      rfl
     refine pure_ (i := 2) (N := some 23) (v := ?_) (a' := ?_) #[false, true, true, false, false, false, false] rfl rfl (by kernel_rfl) (fun _ _ _ h => h) (Or.inl ⟨by rfl, ?_⟩) ?_ ?_
     rotate_left
     ·intro w'
      go_simp
      with_reducible rfl
     rotate_left
     ·simp only [Act.put, zL, zM, zN, i64_w, i32_w]
      rfl
     refine pure_ (i := 3) (N := some 24) (v := ?_) (a' := ?_) #[false, true, true, true, false, false, false] rfl rfl (by kernel_rfl) (fun _ _ _ h => h) (Or.inl ⟨by rfl, ?_⟩) ?_ ?_
     rotate_left
     ·intro w'
      go_simp
      with_reducible rfl
     rotate_left
     ·simp only [Act.put, zL, zM, zN, i64_w, i32_w]
      rfl
     refine pure_ (i := 5) (N := some 26) (v := ?_) (a' := ?_) #[false, true, true, true, false, true, false] rfl rfl (by kernel_rfl) (fun _ _ _ h => h) (Or.inl ⟨by rfl, ?_⟩) ?_ ?_
     rotate_left
     ·intro w'
      go_simp
      with_reducible rfl
     rotate_left
     ·simp only [Act.put, zL, zM, zN, i64_w, i32_w]
      rfl
     refine take_ (i := 0) (N := some 21) (v := ?_) (a' := ?_) #[true, true, true, true, false, true, false] rfl rfl (by kernel_rfl) (fun _ _ _ h => h) (Or.inl ⟨by rfl, ?_⟩) hHeld ?_ ?_
     rotate_left
     ·rintro w' ⟨s0, s1, s2⟩
      go_simp
      with_reducible rfl
     rotate_left
     ·simp only [Act.put, zL, zM, zN, i64_w, i32_w]
      rfl
     refine take_ (i := 4) (N := some 25) (v := ?_) (a' := ?_) #[true, true, true, true, true, true, false] rfl rfl (by kernel_rfl) (fun _ _ _ h => h) (Or.inl ⟨by rfl, ?_⟩) hHeld ?_ ?_
     rotate_left
     ·rintro w' ⟨s0, s1, s2⟩
      go_simp
      with_reducible rfl
     rotate_left
     ·simp only [Act.put, zL, zM, zN, i64_w, i32_w]
      rfl
     refine one_ (i := 6) (N := some 27) #[true, true, true, true, true, true, true] rfl rfl (by kernel_rfl) (by decide) (fun K hK => ?_)
     refine goes_ Tryd.func87 (by kernel_rfl) rfl #[.agg #[.int .i64 a0_0, .slice A0_1 l0_1.length c0_1], .int .i64 (rd l1 x7_1), .int .i64 a2] (by rfl) rfl rfl zg ?_
     with_reducible refine (spec_l02Dep.calls a0_0 _ _ l0_1 (rd l1 x7_1) a2 false _ ?side1 ?side2 A8.out).mono ?_
     (case side1 => exact zS (kO HR0_1.out HB.out))
     (case side2 => exact HC0_1.out)
     rintro e w13 ⟨rfl, hb⟩
     refine ⟨_, rfl, ?_⟩
     replace BK501 := zA (zB1 BK501.out hb)
     replace HB := zA (kQ (zT HB.out GE501.out) hb)
     (try clear hb)
     (try clear hb2)
     (try clear hk)
     (try clear hi)
     (try clear hgw)
     refine hK.out _ _ ⟨(kV BK501.out 0).trans rfl, (kV BK501.out 1).trans rfl, (pw_cell_below HB.out hw503_0)⟩ (fun hHeld => ?_)
     clear hK K
     refine norm_ (a' := ?_) ?_ ?_
     rotate_left
     ·show Act.put _ (some 27) _ = _
      simp only [Act.put, zL, zM, zN, i64_w, i32_w]
      rfl
     refine done_ (by kernel_rfl) ?_
     try go_wp2
     go_roundg k1
     case measure => have := HK1.out; omega
     case rel => exact ⟨(wrap64 (x7_1 + 1)), zs, H', ⟨by have := HK1.out; omega⟩, ⟨zR BK501.out⟩, ⟨zT HB.out GE501.out⟩⟩
    rw [if_neg c6] at H
    exact absurd H (by simp)
   rw [if_neg c5] at H
   have c5b0 : decide (x7_1 < (l1.length : Int)) = false := decide_eq_false c5
   clear c5
   obtain rfl := Option.some.inj H
   go_wp2
   go_ret
   exact ⟨zr, zT HB.out GE501.out⟩

/-! ### spec_l03Without: function 92 -/
def spec_l03Without.f (l0 : List Int) (a1 : Int) : Option (List Int) := if 0 ≤ a1 then (if a1 ≤ (l0.length : Int) then ((spec_l01Own.f (l0.take (a1 : Int).toNat)).bind fun t506 => (if 0 ≤ (wrap64 (a1 + 1)) then (if (wrap64 (a1 + 1)) ≤ (l0.length : Int) then (if t506.length + (l0.drop ((wrap64 (a1 + 1)) : Int).toNat).length < 17592186044416 then (some (t506 ++ (l0.drop ((wrap64 (a1 + 1)) : Int).toNat))) else (none)) else (none)) else (none))) else (none)) else (none)
def spec_l03Without.T1 : Bool × List (List Nat × List Nat) := (true, [([], []), ([], []), ([0, 1], [0, 1]), ([2], [2]), ([], []), ([], []), ([5], [5]), ([4, 6], [4, 6]), ([3, 7, 3], [3, 7]), ([8, 8, 0, 1, 2, 3, 4, 5, 6, 7, 8], [8])])
def spec_l03Without.B1 : List Nat := [0, 0, 3, 7, 0, 0, 32, 112, 255, 511]
theorem spec_l03Without.tab1 : rtab .any (opsOf Tryd.f92 1) = spec_l03Without.T1 := by kernel_rfl
theorem spec_l03Without.bits1 : waitsOk spec_l03Without.T1.2 spec_l03Without.B1 = true := by kernel_rfl
set_option maxHeartbeats 8000000 in
set_option maxRecDepth 100000 in
theorem spec_l03Without.calls (A0 : Option Addr) (c0 : Nat) (l0 : List Int) (a1 : Int) (r : List Int) (w : World) (hr0 : Kd.C (Kd.int .i64) w A0 l0.length l0) (hc0 : l0.length ≤ c0) (h : spec_l03Without.f l0 a1 = some r) :
  Calls Tryd.prog 92 #[.slice A0 l0.length c0, .int .i64 a1] w fun e w' => ∃ v0_ : Value, e = .returned (v0_) ∧ Kd.R (Kd.int .i64) 2 w' w.heap.size (fun _ => True) v0_ r ∧ Below w.heap.size w w' := by
 have HR0 := zA hr0
 have HC0 := zA hc0
 clear hr0 hc0
 have HB := zA (kW w.heap.size w)
 have H := h
 unfold spec_l03Without.f at H
 clear h
 by_cases c3 : 0 ≤ a1
 ·rw [if_pos c3] at H
  have c3b0 := eq_true c3
  have c3b1 : decide (0 ≤ a1) = true := decide_eq_true c3
  clear c3
  by_cases c4 : a1 ≤ (l0.length : Int)
  ·rw [if_pos c4] at H
   have c4b0 := eq_true c4
   have c4b1 : decide (a1 ≤ (l0.length : Int)) = true := decide_eq_true c4
   clear c4
   obtain ⟨t506, A5, H⟩ := zb H
   try dsimp only at H
   obtain ⟨ji6, hji6⟩ : ∃ j_ : Int, (wrap64 (a1 + 1)) = j_ := ⟨_, rfl⟩
   replace H : (if 0 ≤ (ji6) then (if (ji6) ≤ (l0.length : Int) then (if t506.length + (l0.drop ((ji6) : Int).toNat).length < 17592186044416 then (some (t506 ++ (l0.drop ((ji6) : Int).toNat))) else (none)) else (none)) else (none)) = some r := by first | (rw [hji6] at H; exact H) | (simp only [hji6] at H ⊢; exact H)
   (try rw [hji6] at A5)
   have hji6w : (IntKind.i64.wrap (a1 + 1)) = ji6 := (i64_w _).trans hji6
   by_cases c7 : 0 ≤ (ji6)
   ·rw [if_pos c7] at H
    have c7b0 := eq_true c7
    have c7b1 : decide (0 ≤ (ji6)) = true := decide_eq_true c7
    clear c7
    by_cases c8 : (ji6) ≤ (l0.length : Int)
    ·rw [if_pos c8] at H
     have c8b0 := eq_true c8
     have c8b1 : decide ((ji6) ≤ (l0.length : Int)) = true := decide_eq_true c8
     clear c8
     by_cases c9 : t506.length + (l0.drop ((ji6) : Int).toNat).length < 17592186044416
     ·rw [if_pos c9] at H
      have LMc9 := zA c9
      clear c9
      obtain ⟨y510, hy510⟩ : ∃ y_ : List Int, y_ = (t506 ++ (l0.drop ((ji6) : Int).toNat)) := ⟨_, rfl⟩
      replace H : (some y510) = some r := zy hy510 H
      have Ny510 := zA hy510
      clear hy510
      obtain rfl := Option.some.inj H
      go_enter Tryd.func92, Tryd.ntmps92
      try go_wp2
      replace HB := zA (zD HB.out)
      obtain ⟨i011, hi011, _, hsz11, _⟩ := info_parts info2
      obtain ⟨hcut11, hA11, hC11⟩ := print_take_of (P := Tryd.prog) (Value.int .i64) 0 24 2 .i64 Tryd.underlying24 hi011 hsz11 A0 c0 l0 a1 (zd) (zd) HC0.out
      have HR505 := zA (Kd.C_of_reads (h1 := fun _ => rfl) (hA11 _ (Kd.reads_of_C HR0.out)))
      have HC505 := zA hC11
      clear hA11 hC11 hi011 hsz11
      obtain ⟨i012, hi012, _, hsz12, _⟩ := info_parts info2
      obtain ⟨A12, hcut12, hA12, hC12⟩ := print_drop_of (P := Tryd.prog) (Value.int .i64) 0 24 2 .i64 Tryd.underlying24 hi012 hsz12 A0 c0 l0 (ji6) (zd) (zd) HC0.out
      have HR509 := zA (Kd.C_of_reads (h1 := fun _ => rfl) (hA12 _ (Kd.reads_of_C HR0.out)))
      have HC509 := zA hC12
      clear hA12 hC12 hi012 hsz12
      refine start_ (n := 10) (S := fun w' => True) (ds := []) #[false, false, false, false, false, false, false, false, false, false] (by kernel_rfl) rfl rfl trivial (fun hHeld => ?_); refine with_tabW spec_l03Without.tab1 spec_l03Without.bits1 (fun HT_ HW_ => ?_)
      generalize w.drew = w10 at HB HR505 HR509 hHeld ⊢
      refine zp 0 (some 5) #[true, false, false, false, false, false, false, false, false, false] HT_.out ?_
      refine zp 1 (some 6) #[true, true, false, false, false, false, false, false, false, false] HT_.out ?_
      refine zp 2 (some 7) #[true, true, true, false, false, false, false, false, false, false] HT_.out ?_
      refine zp 4 (some 9) #[true, true, true, false, true, false, false, false, false, false] HT_.out ?_
      refine zp 5 (some 10) #[true, true, true, false, true, true, false, false, false, false] HT_.out ?_
      refine zp 6 (some 11) #[true, true, true, false, true, true, true, false, false, false] HT_.out ?_
      refine zp 7 (some 12) #[true, true, true, false, true, true, true, true, false, false] HT_.out ?_
      refine one_ (i := 3) (N := some 8) #[true, true, true, true, true, true, true, true, false, false] rfl rfl (one_of HT_.out (by kernel_rfl)) (by decide) (fun K hK => ?_)
      refine goes_ Tryd.func52 (by kernel_rfl) rfl #[.slice A0 (l0.take (a1 : Int).toNat).length c0] (by rfl) rfl rfl (by (try simp only [List.map_toArray, List.map_cons, List.map_nil]); first | done | (rw [show (l0.take (a1 : Int).toNat).length = a1.toNat from (by rw [List.length_take]; have h_ : (a1 : Int) ≤ (l0.length : Int) := zd; omega)] <;> rfl) | rfl | (simp only [List.length_drop, List.length_take]; rfl)) ?_
      with_reducible refine (spec_l01Own.calls _ _ (l0.take (a1 : Int).toNat) t506 _ ?side1 ?side2 A5.out).mono ?_
      (case side1 => exact zS (kO HR505.out HB.out))
      (case side2 => exact HC505.out)
      rintro e w13 ⟨v507, rfl, ho0, hb⟩
      refine ⟨_, rfl, ?_⟩
      have HO508 := zA (kI ho0 (kP (zQ HB.out)))
      replace HB := zA (kQ (zQ HB.out) hb)
      (try clear hb)
      (try clear hb2)
      (try clear hk)
      (try clear hi)
      (try clear hgw)
      (try clear ho0)
      refine hK.out _ _ trivial (fun hHeld => ?_)
      clear hK K
      refine norm_ (a' := ?_) ?_ ?_
      rotate_left
      ·show Act.put _ (some 8) _ = _
       simp only [Act.put, zL, zM, zN, i64_w, i32_w]
       rfl
      refine one_ (i := 8) (N := some 13) #[true, true, true, true, true, true, true, true, true, false] rfl rfl (one_of HT_.out (by kernel_rfl)) (by decide) (fun K hK => ?_)
      refine Kd.R_append_rows_step (Kd.int .i64) (w0 := w) w.heap.size (by rfl) (.tmp 8) (.tmp 12) 24 2 (.int .i64 0) 8 rfl Tryd.underlying24 info2 rfl (by decide) (by omega) v507 t506 (l0.drop ((ji6) : Int).toNat) _ _ _ (fun _ => True) (fun _ => False) rfl rfl ?aO ?aR (fun _ _ h => h) (fun _ h => h.elim) ?aF ?aB ?aS ?aL ?_
      (case aR => first | (rw [← show (l0.drop ((ji6) : Int).toNat).length = (l0.length - (ji6).toNat) from List.length_drop]; repeat (first | exact (kO HR509.out HB.out) | (with_reducible refine Kd.C_alloc ?_ _) | (with_reducible refine Kd.C_drewN ?_ _) | (with_reducible refine Kd.C_drew ?_))) | (repeat (first | exact (kO HR509.out HB.out) | (with_reducible refine Kd.C_alloc ?_ _) | (with_reducible refine Kd.C_drewN ?_ _) | (with_reducible refine Kd.C_drew ?_))))
      (case aB => exact (zQ HB.out))
      (case aF => exact (fun _ _ => trivial))
      (case aO => exact (zP HO508.out))
      (case aS => exact (kP (zQ HB.out)))
      (case aL => have := LMc9.out; have hlx_ := (show (l0.drop ((ji6) : Int).toNat).length = (l0.length - (ji6).toNat) from List.length_drop); omega)
      intro v511 w14 ho hb hg hat
      rw [← Ny510.out] at ho
      replace HB := zA (hb)
      have HO512 := zA (ho)
      clear HO508 ho hb hg hat
      refine hK.out _ _ trivial (fun hHeld => ?_)
      clear hK K
      refine norm_ (a' := ?_) ?_ ?_
      rotate_left
      ·show Act.put _ (some 13) _ = _
       simp only [Act.put, zL, zM, zN, i64_w, i32_w]
       rfl
      refine zp 9 (some 4) #[true, true, true, true, true, true, true, true, true, true] HT_.out ?_
      refine done_ (done_of HT_.out (by kernel_rfl)) ?_
      try go_wp2
      go_ret
      exact ⟨_, by first | rfl | (simp [errW_none, errW_some] <;> rfl) | (simp only [← hji6]; first | rfl | (simp [errW_none, errW_some] <;> rfl)) | (simp [*, errW_none, errW_some] <;> rfl), zP HO512.out, zQ HB.out⟩
     rw [if_neg c9] at H
     exact absurd H (by simp)
    rw [if_neg c8] at H
    exact absurd H (by simp)
   rw [if_neg c7] at H
   exact absurd H (by simp)
  rw [if_neg c4] at H
  exact absurd H (by simp)
 rw [if_neg c3] at H
 exact absurd H (by simp)

/-! ### spec_l03Normal: function 64 -/
mutual
def spec_l03Normal.l0 : Nat → List Int → List Int → Int → List Int → Option (List Int)
 | 0, _, _, _, _ => none
 | k + 1, x5, x6, x514000, x514001 => if (x6.length : Int) > 0 then (spec_l03Normal.l1 k x5 x6 0 x514000 x514001) else (some x5)
def spec_l03Normal.l1 : Nat → List Int → List Int → Int → Int → List Int → Option (List Int)
 | 0, _, _, _, _, _ => none
 | k + 1, x5, x6, x7, x514000, x514001 => if x7 < x514000 then ((spec_l03First.f k x514000 x514001 x6 x7).bind fun t520 => (if t520 ≥ 0 then (if x5.length < 17592186044416 then ((spec_l03Without.f x6 t520).bind fun t524 => (spec_l03Normal.l0 k (x5 ++ [x7]) t524 x514000 x514001)) else (none)) else (spec_l03Normal.l1 k x5 x6 (wrap64 (x7 + 1)) x514000 x514001))) else (spec_l03Normal.l0 k x5 x6 x514000 x514001)
end
def spec_l03Normal.f (k : Nat) (a0_0 : Int) (l0_1 : List Int) (l1 : List Int) : Option (List Int) := (spec_l01Own.f l1).bind fun t517 => (spec_l03Normal.l0 k (([] : List Int)) t517 a0_0 l0_1)

set_option maxHeartbeats 8000000 in
set_option maxRecDepth 100000 in
theorem spec_l03Normal.calls (k : Nat) (a0_0 : Int) (A0_1 : Option Addr) (c0_1 : Nat) (l0_1 : List Int) (A1 : Option Addr) (c1 : Nat) (l1 : List Int) (r : List Int) (w : World) (hr0_1 : Kd.C (Kd.int .i64) w A0_1 l0_1.length l0_1) (hc0_1 : l0_1.length ≤ c0_1) (hr1 : Kd.C (Kd.int .i64) w A1 l1.length l1) (hc1 : l1.length ≤ c1) (h : spec_l03Normal.f k a0_0 l0_1 l1 = some r) :
  Calls Tryd.prog 64 #[.agg #[.int .i64 a0_0, .slice A0_1 l0_1.length c0_1], .slice A1 l1.length c1] w fun e w' => ∃ v0_ : Value, e = .returned (v0_) ∧ Kd.R (Kd.int .i64) 2 w' w.heap.size (fun _ => True) v0_ r ∧ Below w.heap.size w w' := by
 have hu26 := Tryd.underlying26
 have HR0_1 := zA hr0_1
 have HC0_1 := zA hc0_1
 clear hr0_1 hc0_1
 have HR1 := zA hr1
 have HC1 := zA hc1
 clear hr1 hc1
 have HB := zA (kW w.heap.size w)
 have H := h
 unfold spec_l03Normal.f at H
 clear h
 obtain ⟨y514, hy514⟩ : ∃ y_ : List Int, y_ = (([] : List Int)) := ⟨_, rfl⟩
 replace H : ((spec_l01Own.f l1).bind fun t517 => (spec_l03Normal.l0 k y514 t517 a0_0 l0_1)) = some r := zy hy514 H
 have Ny514 := zA hy514
 clear hy514
 obtain ⟨t517, A3, H⟩ := zb H
 try dsimp only at H
 have H' := zA H
 clear H
 go_enter Tryd.func64, Tryd.ntmps64
 go_wp2_with (first | (refine zBE 2 #[.int .i64 a0_0, .slice A0_1 l0_1.length c0_1] 26 ?_; intro gb513 hg w4 hbox hb; have BK513 := zA (hbox); have GW513 := zA (zBH hg HB.out); have GE513 := zA (zBH hg HB.out); replace HB := zA (kQ (zQ HB.out) hb); clear hb hbox hg) | ((with_reducible refine kS (N := 9) rfl ?_); refine Kd.R_lit (Kd.int .i64) _ 2 ?hg (N := 9) ?hd (xs := ([] : List Int)) (inner := []) (ok := fun _ => True) (okp := fun _ => True) ?hr ?hp (fun _ hk => hk) trivial (kW _ _) (Nat.le_refl _) (by simp) ?_; (case hd => rfl); (case hg => rfl); (case hr => first | (go_simp; done) | (go_simp; rfl)); (case hp => exact (Reps.none _ _)); intro v515 w5 ho6 hb hg_ hnew_; clear hg_ hnew_; (first | rw [← Ny514.out] at ho6 | (simp only [Int.reduceToNat] at ho6; rw [← Ny514.out] at ho6)); have HO516 := zA (kI ho6 (kP (zT HB.out GE513.out))); replace BK513 := zA (zB1 BK513.out hb); replace HB := zA (kQ (zT HB.out GE513.out) hb); clear hb ho6) | (refine zO (some 11) Tryd.func52 #[.slice A1 l1.length c1] ?_; (with_reducible refine (spec_l01Own.calls _ _ l1 t517 _ ?side1 ?side2 A3.out).mono ?_); (case side1 => exact zS (kO HR1.out HB.out)); (case side2 => exact HC1.out); rintro e w7 ⟨v518, rfl, ho0, hb⟩; refine ⟨_, rfl, ?_⟩; have HO519 := zA (kI (kF ho0 (kH (zP HO516.out))) (kP (zT HB.out GE513.out))); replace HO516 := zA (kE (zP HO516.out) (kC ho0) hb); replace BK513 := zA (zB1 BK513.out hb); replace HB := zA (kQ (zT HB.out GE513.out) hb); (try clear hb); (try clear ho0)))
 go_loopg [5, 6] k (fun kq v5 v6 w' => ∃ (x5_1 : List Int) (x6_1 : List Int), Aside0 (spec_l03Normal.l0 kq x5_1 x6_1 a0_0 l0_1 = some r) ∧ Aside0 (kq ≤ k) ∧ Aside0 (Kd.R (Kd.int .i64) 2 w' w.heap.size (fun k_ => some k_ ≠ (v6 : Value).ownBlock) v5 x5_1) ∧ Aside0 (Kd.R (Kd.int .i64) 2 w' w.heap.size (fun k_ => some k_ ≠ (v5 : Value).ownBlock) v6 x6_1) ∧ Aside0 (w'.heap[gb513]? = some (.cells #[.int .i64 a0_0, (.slice A0_1 l0_1.length c0_1)] 26 (0, 0))) ∧ Aside0 (Below w.heap.size w w'))
 case atStart => exact ⟨(y514), (t517), H', ⟨Nat.le_refl _⟩, ⟨zPM HO516.out (fun _ hk => hk.2)⟩, ⟨zPM HO519.out (fun _ hk => hk.2)⟩, ⟨zR BK513.out⟩, ⟨zT HB.out GE513.out⟩⟩
 case round =>
  clear H'
  try clear c1
  try clear c5
  try clear c6
  obtain ⟨x5_1, x6_1, HA, HK1, HO_5, HO_6, BK513, HB⟩ := hrel
  cases gk with
  | zero => exact absurd HA.out (by simp [spec_l03Normal.l0])
  | succ k1 =>
   have H := HA.out
   clear HA
   simp only [spec_l03Normal.l0] at H
   by_cases c8 : (x6_1.length : Int) > 0
   ·rw [if_pos c8] at H
    have c8b0 : decide (0 < (x6_1.length : Int)) = true := decide_eq_true c8
    have c8b1 : decide (0 < x6_1.length) = true := decide_eq_true (by omega)
    clear c8
    have H' := zA H
    clear H
    obtain ⟨Ao9, co9, eo9⟩ := kM HO_6.out
    subst eo9
    go_wp2
    go_loopg [5, 6, 7] k1 (fun kq v5 v6 v7 w' => ∃ (x5_2 : List Int) (x6_2 : List Int) (x7_2 : Int), v7 = .int .i64 x7_2 ∧ Aside0 (spec_l03Normal.l1 kq x5_2 x6_2 x7_2 a0_0 l0_1 = some r) ∧ Aside0 (kq ≤ k1) ∧ Aside0 (Kd.R (Kd.int .i64) 2 w' w.heap.size (fun k_ => some k_ ≠ (v6 : Value).ownBlock) v5 x5_2) ∧ Aside0 (Kd.R (Kd.int .i64) 2 w' w.heap.size (fun k_ => some k_ ≠ (v5 : Value).ownBlock) v6 x6_2) ∧ Aside0 (w'.heap[gb513]? = some (.cells #[.int .i64 a0_0, (.slice A0_1 l0_1.length c0_1)] 26 (0, 0))) ∧ Aside0 (Below w.heap.size w w'))
    case atStart => exact ⟨(x5_1), (x6_1), (0), zs, H', ⟨Nat.le_refl _⟩, ⟨zP HO_5.out⟩, ⟨zP HO_6.out⟩, ⟨zR BK513.out⟩, ⟨zT HB.out GE513.out⟩⟩
    case round =>
     clear H'
     try clear c1
     try clear c5
     try clear c6
     try clear c8
     obtain ⟨x5_2, x6_2, x7_2, rfl, HA, HK2, HO_5, HO_6, BK513, HB⟩ := hrel
     cases gk with
     | zero => exact absurd HA.out (by simp [spec_l03Normal.l1])
     | succ k2 =>
      have H := HA.out
      clear HA
      simp only [spec_l03Normal.l1] at H
      by_cases c10 : x7_2 < a0_0
      ·rw [if_pos c10] at H
       have c10b0 : decide (x7_2 < a0_0) = true := decide_eq_true c10
       clear c10
       obtain ⟨t520, A11, H⟩ := zb H
       try dsimp only at H
       by_cases c12 : t520 ≥ 0
       ·rw [if_pos c12] at H
        have c12b0 : decide (0 ≤ t520) = true := decide_eq_true c12
        clear c12
        by_cases c13 : x5_2.length < 17592186044416
        ·rw [if_pos c13] at H
         have LMc13 := zA c13
         clear c13
         obtain ⟨y521, hy521⟩ : ∃ y_ : List Int, y_ = (x5_2 ++ [x7_2]) := ⟨_, rfl⟩
         replace H : ((spec_l03Without.f x6_2 t520).bind fun t524 => (spec_l03Normal.l0 k2 y521 t524 a0_0 l0_1)) = some r := zy hy521 H
         have Ny521 := zA hy521
         clear hy521
         obtain ⟨t524, A14, H⟩ := zb H
         try dsimp only at H
         have H' := zA H
         clear H
         obtain ⟨hcz15_0, hcz15_1, hfz15_0, hfz15_1⟩ := zB3 BK513.out
         obtain ⟨Ao16, co16, eo16⟩ := kM HO_6.out
         subst eo16
         go_wp2_with (first | (refine zO (some 24) Tryd.func91 #[.agg #[.int .i64 a0_0, .slice A0_1 l0_1.length c0_1], .slice Ao16 x6_2.length co16, .int .i64 x7_2] ?_; (with_reducible refine (spec_l03First.calls k2 a0_0 _ _ l0_1 _ _ x6_2 x7_2 t520 _ ?side1 ?side2 ?side3 ?side4 A11.out).mono ?_); (case side1 => exact zS (kO HR0_1.out HB.out)); (case side2 => exact HC0_1.out); (case side3 => exact zS (kB HO_6.out).2.2); (case side4 => exact (kB HO_6.out).2.1); rintro e w17 ⟨rfl, hb⟩; refine ⟨_, rfl, ?_⟩; replace HO_5 := zA (kL (zP HO_5.out) hb); replace HO_6 := zA (kL (zP HO_6.out) hb); replace BK513 := zA (zB1 BK513.out hb); replace HB := zA (kQ (zT HB.out GE513.out) hb); (try clear hb)) | ((with_reducible refine gate_builtin (b := .append) (xs := #[.tmp 27, .tmp 29]) rfl ?_); at_builtin; refine Kd.R_append (Kd.int .i64) (w0 := w) w.heap.size rfl (.tmp 27) (.tmp 29) 24 2 (.int .i64 0) 8 rfl Tryd.underlying24 info2 rfl (by decide) (by omega) u5 x5_2 x7_2 [.int .i64 x7_2] (fun k_ => some k_ ≠ (.slice Ao16 x6_2.length co16 : Value).ownBlock) (fun _ => False) rfl rfl ?aP (fun _ hk => hk.elim) ?aF ?aO ?aB ?aS ?aL ?_; (case aP => exact rfl); (case aB => exact (zT HB.out GE513.out)); (case aF => exact (fun k_ hk => jF (kH (zP HO_6.out)) k_ hk)); (case aO => exact (zP HO_5.out)); (case aS => exact (kP (zT HB.out GE513.out))); (case aL => have := LMc13.out; omega); intro v522 w18 ho hb hg hat; rw [← Ny521.out] at ho; replace HO_6 := zA (Kd.R_after (ok := (fun _ => True)) (by (with_reducible repeat (first | apply zF | apply zG | apply zH)); exact kA HO_6.out (fun _ hk => ⟨trivial, hk⟩)) hg hat); replace BK513 := zA (blk_grown (g := gb513) (o := .cells #[.int .i64 a0_0, .slice A0_1 l0_1.length c0_1] 26 (0, 0)) (zR BK513.out) hg (Kd.R_ne HO_5.out BK513.out (by decide))); replace HB := zA (hb); have HO523 := zA (ho); clear HO_5; clear ho hb hg hat) | (refine zO (some 33) Tryd.func92 #[.slice Ao16 x6_2.length co16, .int .i64 t520] ?_; (with_reducible refine (spec_l03Without.calls _ _ x6_2 t520 t524 _ ?side1 ?side2 A14.out).mono ?_); (case side1 => exact zS (kB HO_6.out).2.2); (case side2 => exact (kB HO_6.out).2.1); rintro e w19 ⟨v525, rfl, ho0, hb⟩; refine ⟨_, rfl, ?_⟩; have HO526 := zA (kI (kF (kF ho0 (kH (zP HO_6.out))) (kH (zP HO523.out))) (kP (zT HB.out GE513.out))); replace HO_6 := zA (kE (zP HO_6.out) (kC ho0) hb); replace HO523 := zA (kE (zP HO523.out) (kC ho0) hb); replace BK513 := zA (zB1 BK513.out hb); replace HB := zA (kQ (zT HB.out GE513.out) hb); (try clear hb); (try clear ho0)))
         go_roundg k2
         case measure => have := HK1.out; have := HK2.out; omega
         case rel => exact ⟨(y521), (t524), H', ⟨by have := HK1.out; have := HK2.out; omega⟩, ⟨zPM HO523.out (fun _ hk => hk.2)⟩, ⟨zPM HO526.out (fun _ hk => hk.2)⟩, ⟨zR BK513.out⟩, ⟨zT HB.out GE513.out⟩⟩
        rw [if_neg c13] at H
        exact absurd H (by simp)
       rw [if_neg c12] at H
       have c12b0 : decide (0 ≤ t520) = false := decide_eq_false c12
       clear c12
       have H' := zA H
       clear H
       obtain ⟨hcz20_0, hcz20_1, hfz20_0, hfz20_1⟩ := zB3 BK513.out
       obtain ⟨Ao21, co21, eo21⟩ := kM HO_6.out
       subst eo21
       go_wp2_with (first | (refine zO (some 24) Tryd.func91 #[.agg #[.int .i64 a0_0, .slice A0_1 l0_1.length c0_1], .slice Ao21 x6_2.length co21, .int .i64 x7_2] ?_; (with_reducible refine (spec_l03First.calls k2 a0_0 _ _ l0_1 _ _ x6_2 x7_2 t520 _ ?side1 ?side2 ?side3 ?side4 A11.out).mono ?_); (case side1 => exact zS (kO HR0_1.out HB.out)); (case side2 => exact HC0_1.out); (case side3 => exact zS (kB HO_6.out).2.2); (case side4 => exact (kB HO_6.out).2.1); rintro e w22 ⟨rfl, hb⟩; refine ⟨_, rfl, ?_⟩; replace HO_5 := zA (kL (zP HO_5.out) hb); replace HO_6 := zA (kL (zP HO_6.out) hb); replace BK513 := zA (zB1 BK513.out hb); replace HB := zA (kQ (zT HB.out GE513.out) hb); (try clear hb)))
       go_roundg k2
       case measure => have := HK1.out; have := HK2.out; omega
       case rel => exact ⟨(x5_2), (x6_2), (wrap64 (x7_2 + 1)), zs, H', ⟨by have := HK1.out; have := HK2.out; omega⟩, ⟨zP HO_5.out⟩, ⟨zP HO_6.out⟩, ⟨zR BK513.out⟩, ⟨zT HB.out GE513.out⟩⟩
      rw [if_neg c10] at H
      have c10b0 : decide (x7_2 < a0_0) = false := decide_eq_false c10
      clear c10
      have H' := zA H
      clear H
      obtain ⟨hcz23_0, hcz23_1, hfz23_0, hfz23_1⟩ := zB3 BK513.out
      go_wp2
      go_roundg k2
      case measure => have := HK1.out; have := HK2.out; omega
      case rel => exact ⟨(x5_2), (x6_2), H', ⟨by have := HK1.out; have := HK2.out; omega⟩, ⟨zP HO_5.out⟩, ⟨zP HO_6.out⟩, ⟨zR BK513.out⟩, ⟨zT HB.out GE513.out⟩⟩
   rw [if_neg c8] at H
   have c8b0 : decide (0 < (x6_1.length : Int)) = false := decide_eq_false c8
   have c8b1 : decide (0 < x6_1.length) = false := decide_eq_false (by omega)
   clear c8
   obtain rfl := Option.some.inj H
   obtain ⟨Ao24, co24, eo24⟩ := kM HO_6.out
   subst eo24
   go_wp2
   go_ret
   exact ⟨_, zr, by (with_reducible repeat (first | apply zF | apply zG | apply zH)); exact kA HO_5.out (fun _ hk => trivial), zT HB.out GE513.out⟩

/-! ### spec_l07Letters: function 106 -/
def spec_l07Letters.l0 : Nat → List Int → Int → Int → Option (Int)
 | 0, _, _, _ => none
 | k + 1, x0, x3, x4 => if x4 < (x0.length : Int) then (if 0 ≤ x4 then ((spec_l01One.f (rd x0 x4)).bind fun t528 => (spec_l07Letters.l0 k x0 (Go.bits .or .i64 x3 t528) (wrap64 (x4 + 1)))) else (none)) else (some x3)
def spec_l07Letters.f (k : Nat) (l0 : List Int) : Option (Int) := spec_l07Letters.l0 k l0 0 0

set_option maxHeartbeats 8000000 in
set_option maxRecDepth 100000 in
theorem spec_l07Letters.calls (k : Nat) (A0 : Option Addr) (c0 : Nat) (l0 : List Int) (r : Int) (w : World) (hr0 : Kd.C (Kd.int .i64) w A0 l0.length l0) (hc0 : l0.length ≤ c0) (h : spec_l07Letters.f k l0 = some r) :
  Calls Tryd.prog 106 #[.slice A0 l0.length c0] w fun e w' => e = .returned (.int .i64 r) ∧ Drawn0 w w' := by
 have HR0 := zA hr0
 have HC0 := zA hc0
 clear hr0 hc0
 have H := h
 unfold spec_l07Letters.f at H
 clear h
 have H' := zA H
 clear H
 go_enter Tryd.func106, Tryd.ntmps106
 go_wp2
 go_loopg [3, 4] k (fun kq v3 v4 w' => ∃ (x3_1 : Int) (x4_1 : Int), v3 = .int .i64 x3_1 ∧ v4 = .int .i64 x4_1 ∧ Aside0 (spec_l07Letters.l0 kq l0 x3_1 x4_1 = some r) ∧ Aside0 (kq ≤ k) ∧ Drawn0 w w')
 case atStart => exact ⟨(0), (0), zs, zs, H', ⟨Nat.le_refl _⟩, by repeat (first | exact Drawn0.refl _ | apply Drawn0.step)⟩
 case round =>
  clear H'
  try clear c1
  obtain ⟨x3_1, x4_1, rfl, rfl, HA, HK1, ⟨m1, rfl⟩⟩ := hrel
  cases gk with
  | zero => exact absurd HA.out (by simp [spec_l07Letters.l0])
  | succ k1 =>
   have H := HA.out
   clear HA
   simp only [spec_l07Letters.l0] at H
   by_cases c2 : x4_1 < (l0.length : Int)
   ·rw [if_pos c2] at H
    have c2b0 : decide (x4_1 < (l0.length : Int)) = true := decide_eq_true c2
    clear c2
    by_cases c3 : 0 ≤ x4_1
    ·rw [if_pos c3] at H
     have c3b0 : decide (0 ≤ x4_1) = true := decide_eq_true c3
     clear c3
     obtain ⟨t528, A4, H⟩ := zb H
     try dsimp only at H
     have H' := zA H
     clear H
     have p527 : 0 ≤ (x4_1 : Int) := zd
     have q527 : x4_1 < (l0.length : Int) := zd
     obtain ⟨ad527, e527, hx527_0⟩ := Kd.at_int HR0.out x4_1 p527 q527
     cases e527
     replace p527 := eq_true p527
     replace q527 := eq_true q527
     go_wp2_with (first | (refine zO (some 16) Tryd.func71 #[.int .i64 (rd l0 x4_1)] ?_; (with_reducible refine (spec_l01One.calls (rd l0 x4_1) t528 _ A4.out).mono ?_); rintro e w' ⟨rfl, ⟨nd, rfl⟩⟩; refine ⟨_, rfl, ?_⟩))
     go_roundg k1
     case measure => have := HK1.out; omega
     case rel => exact ⟨(Go.bits .or .i64 x3_1 t528), (wrap64 (x4_1 + 1)), zs, zs, H', ⟨by have := HK1.out; omega⟩, by repeat (first | exact Drawn0.refl _ | apply Drawn0.step)⟩
    rw [if_neg c3] at H
    exact absurd H (by simp)
   rw [if_neg c2] at H
   have c2b0 : decide (x4_1 < (l0.length : Int)) = false := decide_eq_false c2
   clear c2
   obtain rfl := Option.some.inj H
   go_wp2
   go_ret
   exact ⟨zs, by repeat (first | exact Drawn0.refl _ | apply Drawn0.step)⟩

/-! ### spec_l06Reach: function 107 -/
def spec_l06Reach.l0 : Nat → Int → Int → Int → Int → List Int → Option (Int)
 | 0, _, _, _, _, _ => none
 | k + 1, x1, x5, x6, x530000, x530001 => if x6 < x530000 then ((spec_l01Bit.f x1 x6).bind fun t530 => (if t530 = true then (if 0 ≤ x6 then (if x6 < (x530001.length : Int) then (spec_l06Reach.l0 k x1 (Go.bits .or .i64 x5 (rd x530001 x6)) (wrap64 (x6 + 1)) x530000 x530001) else (none)) else (none)) else (spec_l06Reach.l0 k x1 x5 (wrap64 (x6 + 1)) x530000 x530001))) else (some x5)
def spec_l06Reach.f (k : Nat) (a0_0 : Int) (l0_1 : List Int) (a1 : Int) : Option (Int) := spec_l06Reach.l0 k a1 0 0 a0_0 l0_1

set_option maxHeartbeats 8000000 in
set_option maxRecDepth 100000 in
theorem spec_l06Reach.calls (k : Nat) (a0_0 : Int) (A0_1 : Option Addr) (c0_1 : Nat) (l0_1 : List Int) (a1 : Int) (r : Int) (w : World) (hr0_1 : Kd.C (Kd.int .i64) w A0_1 l0_1.length l0_1) (hc0_1 : l0_1.length ≤ c0_1) (h : spec_l06Reach.f k a0_0 l0_1 a1 = some r) :
  Calls Tryd.prog 107 #[.agg #[.int .i64 a0_0, .slice A0_1 l0_1.length c0_1], .int .i64 a1] w fun e w' => e = .returned (.int .i64 r) ∧ Below w.heap.size w w' := by
 have hu26 := Tryd.underlying26
 have HR0_1 := zA hr0_1
 have HC0_1 := zA hc0_1
 clear hr0_1 hc0_1
 have HB := zA (kW w.heap.size w)
 have H := h
 unfold spec_l06Reach.f at H
 clear h
 have H' := zA H
 clear H
 go_enter Tryd.func107, Tryd.ntmps107
 go_wp2_with (first | (refine zBE 2 #[.int .i64 a0_0, .slice A0_1 l0_1.length c0_1] 26 ?_; intro gb529 hg w3 hbox hb; have BK529 := zA (hbox); have GW529 := zA (zBH hg HB.out); have GE529 := zA (zBH hg HB.out); replace HB := zA (kQ (zQ HB.out) hb); clear hb hbox hg))
 go_loopg [5, 6] k (fun kq v5 v6 w' => ∃ (x5_1 : Int) (x6_1 : Int), v5 = .int .i64 x5_1 ∧ v6 = .int .i64 x6_1 ∧ Aside0 (spec_l06Reach.l0 kq a1 x5_1 x6_1 a0_0 l0_1 = some r) ∧ Aside0 (kq ≤ k) ∧ Aside0 (w'.heap[gb529]? = some (.cells #[.int .i64 a0_0, (.slice A0_1 l0_1.length c0_1)] 26 (0, 0))) ∧ Aside0 (Below w.heap.size w w'))
 case atStart => exact ⟨(0), (0), zs, zs, H', ⟨Nat.le_refl _⟩, ⟨zR BK529.out⟩, ⟨zT HB.out GE529.out⟩⟩
 case round =>
  clear H'
  try clear c1
  obtain ⟨x5_1, x6_1, rfl, rfl, HA, HK1, BK529, HB⟩ := hrel
  cases gk with
  | zero => exact absurd HA.out (by simp [spec_l06Reach.l0])
  | succ k1 =>
   have H := HA.out
   clear HA
   simp only [spec_l06Reach.l0] at H
   by_cases c4 : x6_1 < a0_0
   ·rw [if_pos c4] at H
    have c4b0 : decide (x6_1 < a0_0) = true := decide_eq_true c4
    clear c4
    obtain ⟨t530, A5, H⟩ := zb H
    try dsimp only at H
    by_cases c6 : t530 = true
    ·subst c6
     rw [if_pos rfl] at H
     by_cases c7 : 0 ≤ x6_1
     ·rw [if_pos c7] at H
      have c7b0 : decide (0 ≤ x6_1) = true := decide_eq_true c7
      clear c7
      by_cases c8 : x6_1 < (l0_1.length : Int)
      ·rw [if_pos c8] at H
       have c8b0 : decide (x6_1 < (l0_1.length : Int)) = true := decide_eq_true c8
       clear c8
       have H' := zA H
       clear H
       obtain ⟨hcz9_0, hcz9_1, hfz9_0, hfz9_1⟩ := zB3 BK529.out
       go_wp2_with (first | (refine zO (some 15) Tryd.func72 #[.int .i64 a1, .int .i64 x6_1] ?_; (with_reducible refine (spec_l01Bit.calls a1 x6_1 true _ A5.out).mono ?_); rintro e w' ⟨rfl, ⟨nd, rfl⟩⟩; refine ⟨_, rfl, ?_⟩; have p531 : 0 ≤ (x6_1 : Int) := zd; have q531 : x6_1 < (l0_1.length : Int) := zd; obtain ⟨ad531, e531, hx531_0⟩ := Kd.at_int HR0_1.out x6_1 p531 q531; cases e531; replace hx531_0 := (HB.out.cell (jG w _ hx531_0)).trans hx531_0; replace p531 := eq_true p531; replace q531 := eq_true q531))
       go_roundg k1
       case measure => have := HK1.out; omega
       case rel => exact ⟨(Go.bits .or .i64 x5_1 (rd l0_1 x6_1)), (wrap64 (x6_1 + 1)), zs, zs, H', ⟨by have := HK1.out; omega⟩, ⟨zR BK529.out⟩, ⟨zT HB.out GE529.out⟩⟩
      rw [if_neg c8] at H
      exact absurd H (by simp)
     rw [if_neg c7] at H
     exact absurd H (by simp)
    replace c6 := Bool.eq_false_iff.mpr c6
    subst c6
    rw [if_neg (show ¬ (false = true) by decide)] at H
    have H' := zA H
    clear H
    obtain ⟨hcz10_0, hcz10_1, hfz10_0, hfz10_1⟩ := zB3 BK529.out
    go_wp2_with (first | (refine zO (some 15) Tryd.func72 #[.int .i64 a1, .int .i64 x6_1] ?_; (with_reducible refine (spec_l01Bit.calls a1 x6_1 false _ A5.out).mono ?_); rintro e w' ⟨rfl, ⟨nd, rfl⟩⟩; refine ⟨_, rfl, ?_⟩))
    go_roundg k1
    case measure => have := HK1.out; omega
    case rel => exact ⟨(x5_1), (wrap64 (x6_1 + 1)), zs, zs, H', ⟨by have := HK1.out; omega⟩, ⟨zR BK529.out⟩, ⟨zT HB.out GE529.out⟩⟩
   rw [if_neg c4] at H
   have c4b0 : decide (x6_1 < a0_0) = false := decide_eq_false c4
   clear c4
   obtain rfl := Option.some.inj H
   obtain ⟨hcz11_0, hcz11_1, hfz11_0, hfz11_1⟩ := zB3 BK529.out
   go_wp2
   go_ret
   exact ⟨zr, zT HB.out GE529.out⟩

/-! ### spec_l03Project: function 108 -/
def spec_l03Project.l0 : Nat → List Int → Int → List Int → Int → Option (List Int)
 | 0, _, _, _, _ => none
 | k + 1, x0, x1, x5, x6 => if x6 < (x0.length : Int) then (if 0 ≤ x6 then ((spec_l01Bit.f x1 (rd x0 x6)).bind fun t536 => (if t536 = true then (if x5.length < 17592186044416 then (spec_l03Project.l0 k x0 x1 (x5 ++ [rd x0 x6]) (wrap64 (x6 + 1))) else (none)) else (spec_l03Project.l0 k x0 x1 x5 (wrap64 (x6 + 1))))) else (none)) else (some x5)
def spec_l03Project.f (k : Nat) (l0 : List Int) (a1 : Int) : Option (List Int) := spec_l03Project.l0 k l0 a1 (([] : List Int)) 0

set_option maxHeartbeats 8000000 in
set_option maxRecDepth 100000 in
theorem spec_l03Project.calls (k : Nat) (A0 : Option Addr) (c0 : Nat) (l0 : List Int) (a1 : Int) (r : List Int) (w : World) (hr0 : Kd.C (Kd.int .i64) w A0 l0.length l0) (hc0 : l0.length ≤ c0) (h : spec_l03Project.f k l0 a1 = some r) :
  Calls Tryd.prog 108 #[.slice A0 l0.length c0, .int .i64 a1] w fun e w' => ∃ v0_ : Value, e = .returned (v0_) ∧ Kd.R (Kd.int .i64) 2 w' w.heap.size (fun _ => True) v0_ r ∧ Below w.heap.size w w' := by
 have HR0 := zA hr0
 have HC0 := zA hc0
 clear hr0 hc0
 have HB := zA (kW w.heap.size w)
 have H := h
 unfold spec_l03Project.f at H
 clear h
 obtain ⟨y532, hy532⟩ : ∃ y_ : List Int, y_ = (([] : List Int)) := ⟨_, rfl⟩
 replace H : (spec_l03Project.l0 k l0 a1 y532 0) = some r := zy hy532 H
 have Ny532 := zA hy532
 clear hy532
 have H' := zA H
 clear H
 go_enter Tryd.func108, Tryd.ntmps108
 go_wp2_with (first | ((with_reducible refine kS (N := 7) rfl ?_); refine Kd.R_lit (Kd.int .i64) _ 2 ?hg (N := 7) ?hd (xs := ([] : List Int)) (inner := []) (ok := fun _ => True) (okp := fun _ => True) ?hr ?hp (fun _ hk => hk) trivial (kW _ _) (Nat.le_refl _) (by simp) ?_; (case hd => rfl); (case hg => rfl); (case hr => first | (go_simp; done) | (go_simp; rfl)); (case hp => exact (Reps.none _ _)); intro v533 w3 ho4 hb hg_ hnew_; clear hg_ hnew_; (first | rw [← Ny532.out] at ho4 | (simp only [Int.reduceToNat] at ho4; rw [← Ny532.out] at ho4)); have HO534 := zA (kI ho4 (kP (zQ HB.out))); replace HB := zA (kQ (zQ HB.out) hb); clear hb ho4))
 go_loopg [5, 6] k (fun kq v5 v6 w' => ∃ (x5_1 : List Int) (x6_1 : Int), v6 = .int .i64 x6_1 ∧ Aside0 (spec_l03Project.l0 kq l0 a1 x5_1 x6_1 = some r) ∧ Aside0 (kq ≤ k) ∧ Aside0 (Kd.R (Kd.int .i64) 2 w' w.heap.size (fun _ => True) v5 x5_1) ∧ Aside0 (Below w.heap.size w w'))
 case atStart => exact ⟨(y532), (0), zs, H', ⟨Nat.le_refl _⟩, ⟨zP HO534.out⟩, ⟨zQ HB.out⟩⟩
 case round =>
  clear H'
  try clear c1
  obtain ⟨x5_1, x6_1, rfl, HA, HK1, HO_5, HB⟩ := hrel
  cases gk with
  | zero => exact absurd HA.out (by simp [spec_l03Project.l0])
  | succ k1 =>
   have H := HA.out
   clear HA
   simp only [spec_l03Project.l0] at H
   by_cases c5 : x6_1 < (l0.length : Int)
   ·rw [if_pos c5] at H
    have c5b0 : decide (x6_1 < (l0.length : Int)) = true := decide_eq_true c5
    clear c5
    by_cases c6 : 0 ≤ x6_1
    ·rw [if_pos c6] at H
     have c6b0 : decide (0 ≤ x6_1) = true := decide_eq_true c6
     clear c6
     obtain ⟨t536, A7, H⟩ := zb H
     try dsimp only at H
     by_cases c8 : t536 = true
     ·subst c8
      rw [if_pos rfl] at H
      by_cases c9 : x5_1.length < 17592186044416
      ·rw [if_pos c9] at H
       have LMc9 := zA c9
       clear c9
       obtain ⟨y538, hy538⟩ : ∃ y_ : List Int, y_ = (x5_1 ++ [rd l0 x6_1]) := ⟨_, rfl⟩
       replace H : (spec_l03Project.l0 k1 l0 a1 y538 (wrap64 (x6_1 + 1))) = some r := zy hy538 H
       have Ny538 := zA hy538
       clear hy538
       have H' := zA H
       clear H
       have p535 : 0 ≤ (x6_1 : Int) := zd
       have q535 : x6_1 < (l0.length : Int) := zd
       obtain ⟨ad535, e535, hx535_0⟩ := Kd.at_int HR0.out x6_1 p535 q535
       cases e535
       replace hx535_0 := (HB.out.cell (jG w _ hx535_0)).trans hx535_0
       replace p535 := eq_true p535
       replace q535 := eq_true q535
       go_wp2_with (first | (refine zO (some 19) Tryd.func72 #[.int .i64 a1, .int .i64 (rd l0 x6_1)] ?_; (with_reducible refine (spec_l01Bit.calls a1 (rd l0 x6_1) true _ A7.out).mono ?_); rintro e w' ⟨rfl, ⟨nd, rfl⟩⟩; refine ⟨_, rfl, ?_⟩; have p537 : 0 ≤ (x6_1 : Int) := zd; have q537 : x6_1 < (l0.length : Int) := zd; obtain ⟨ad537, e537, hx537_0⟩ := Kd.at_int HR0.out x6_1 p537 q537; obtain rfl : ad535 = ad537 := (by injection e537); replace hx537_0 := (HB.out.cell (jG w _ hx537_0)).trans hx537_0; replace p537 := eq_true p537; replace q537 := eq_true q537) | ((with_reducible refine gate_builtin (b := .append) (xs := #[.tmp 20, .tmp 25]) rfl ?_); at_builtin; refine Kd.R_append (Kd.int .i64) (w0 := w) w.heap.size rfl (.tmp 20) (.tmp 25) 24 2 (.int .i64 0) 8 rfl Tryd.underlying24 info2 rfl (by decide) (by omega) u5 x5_1 (rd l0 x6_1) [.int .i64 (rd l0 x6_1)] (fun _ => True) (fun _ => False) rfl rfl ?aP (fun _ hk => hk.elim) ?aF ?aO ?aB ?aS ?aL ?_; (case aP => exact rfl); (case aB => exact (zQ HB.out)); (case aF => exact (fun _ _ => trivial)); (case aO => exact (zP HO_5.out)); (case aS => exact (kP (zQ HB.out))); (case aL => have := LMc9.out; omega); intro v539 w10 ho hb hg hat; rw [← Ny538.out] at ho; replace HB := zA (hb); have HO540 := zA (ho); clear HO_5; clear ho hb hg hat))
       go_roundg k1
       case measure => have := HK1.out; omega
       case rel => exact ⟨(y538), (wrap64 (x6_1 + 1)), zs, H', ⟨by have := HK1.out; omega⟩, ⟨zP HO540.out⟩, ⟨zQ HB.out⟩⟩
      rw [if_neg c9] at H
      exact absurd H (by simp)
     replace c8 := Bool.eq_false_iff.mpr c8
     subst c8
     rw [if_neg (show ¬ (false = true) by decide)] at H
     have H' := zA H
     clear H
     have p535 : 0 ≤ (x6_1 : Int) := zd
     have q535 : x6_1 < (l0.length : Int) := zd
     obtain ⟨ad535, e535, hx535_0⟩ := Kd.at_int HR0.out x6_1 p535 q535
     cases e535
     replace hx535_0 := (HB.out.cell (jG w _ hx535_0)).trans hx535_0
     replace p535 := eq_true p535
     replace q535 := eq_true q535
     go_wp2_with (first | (refine zO (some 19) Tryd.func72 #[.int .i64 a1, .int .i64 (rd l0 x6_1)] ?_; (with_reducible refine (spec_l01Bit.calls a1 (rd l0 x6_1) false _ A7.out).mono ?_); rintro e w' ⟨rfl, ⟨nd, rfl⟩⟩; refine ⟨_, rfl, ?_⟩))
     go_roundg k1
     case measure => have := HK1.out; omega
     case rel => exact ⟨(x5_1), (wrap64 (x6_1 + 1)), zs, H', ⟨by have := HK1.out; omega⟩, ⟨zP HO_5.out⟩, ⟨zQ HB.out⟩⟩
    rw [if_neg c6] at H
    exact absurd H (by simp)
   rw [if_neg c5] at H
   have c5b0 : decide (x6_1 < (l0.length : Int)) = false := decide_eq_false c5
   clear c5
   obtain rfl := Option.some.inj H
   go_wp2
   go_ret
   exact ⟨_, zr, zP HO_5.out, zQ HB.out⟩

end Go.Proofs.YtcboobfmenonhaaDoor.PAll
