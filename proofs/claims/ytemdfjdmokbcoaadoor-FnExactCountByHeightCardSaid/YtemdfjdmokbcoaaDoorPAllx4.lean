-- Printed by a program of the session (wip/tools/pgen.py) out of the translation. Not trusted: Lean checks it.
import Derived.Test.YtemdfjdmokbcoaaDoorPAllx0
import Derived.Test.YtemdfjdmokbcoaaDoorPAllx3
namespace Go.Proofs.YtemdfjdmokbcoaaDoor.PAll
open Go.RowKit Go.Proofs.YtemdfjdmokbcoaaDoor.T Go.Proofs.YtemdfjdmokbcoaaDoorW.PrintWords Go.Proofs.YtemdfjdmokbcoaaDoorW.PrintLast Go.Proofs.YtemdfjdmokbcoaaDoorW.PrintMore
attribute [local go_sem] max2_int min2_int max_two min_two max_three min_three max_four min_four   -- for this text's walks alone
set_option linter.unusedVariables false
set_option linter.unusedSimpArgs false

/-! ### impl_members: function 66 -/
def impl_members.l0 : Nat → Int → List Int → Option (List Int)
 | 0, _, _ => none
 | k + 1, x0, x3 => if x0 = 0 then (some x3) else ((impl_least.f x0).bind fun t281 => (if x3.length < 17592186044416 then (impl_members.l0 k (Go.bits .and .i64 x0 (wrap64 (x0 - 1))) (x3 ++ [t281])) else (none)))
def impl_members.f (k : Nat) (a0 : Int) : Option (List Int) := impl_members.l0 k a0 (([] : List Int))

set_option maxHeartbeats 8000000 in
set_option maxRecDepth 100000 in
theorem impl_members.calls (k : Nat) (a0 : Int) (r : List Int) (w : World) (hT : TabW w) (h : impl_members.f k a0 = some r) :
  Calls Tryd.prog 66 #[.int .i64 a0] w fun e w' => ∃ v0_ : Value, e = .returned (v0_) ∧ Kd.R (Kd.int .i64) 2 w' w.heap.size (fun _ => True) v0_ r ∧ Below w.heap.size w w' := by
 have HT := zA hT
 clear hT
 have HB := zA (kW w.heap.size w)
 have H := h
 unfold impl_members.f at H
 clear h
 obtain ⟨y278, hy278⟩ : ∃ y_ : List Int, y_ = (([] : List Int)) := ⟨_, rfl⟩
 replace H : (impl_members.l0 k a0 y278) = some r := zy hy278 H
 have Ny278 := zA hy278
 clear hy278
 have H' := zA H
 clear H
 go_enter Tryd.func66, Tryd.ntmps66
 go_wp2_with (first | ((with_reducible refine kS (N := 4) rfl ?_); refine Kd.R_lit (Kd.int .i64) _ 2 ?hg (N := 4) ?hd (xs := ([] : List Int)) (inner := []) (ok := fun _ => True) (okp := fun _ => True) ?hr ?hp (fun _ hk => hk) trivial (kW _ _) (Nat.le_refl _) (by simp) ?_; (case hd => rfl); (case hg => rfl); (case hr => first | (go_simp; done) | (go_simp; rfl)); (case hp => exact (Reps.none _ _)); intro v279 w2 ho3 hb hg_ hnew_; clear hg_ hnew_; (first | rw [← Ny278.out] at ho3 | (simp only [Int.reduceToNat] at ho3; rw [← Ny278.out] at ho3)); have HO280 := zA (kI ho3 (kP (zQ HB.out))); replace HB := zA (kQ (zQ HB.out) hb); clear hb ho3))
 go_loopg [0, 3] k (fun kq v0 v3 w' => ∃ (x0_1 : Int) (x3_1 : List Int), v0 = .int .i64 x0_1 ∧ Aside0 (impl_members.l0 kq x0_1 x3_1 = some r) ∧ Aside0 (kq ≤ k) ∧ Aside0 (Kd.R (Kd.int .i64) 2 w' w.heap.size (fun _ => True) v3 x3_1) ∧ Aside0 (Below w.heap.size w w'))
 case atStart => exact ⟨(a0), (y278), zs, H', ⟨Nat.le_refl _⟩, ⟨zP HO280.out⟩, ⟨zQ HB.out⟩⟩
 case round =>
  clear H'
  obtain ⟨x0_1, x3_1, rfl, HA, HK1, HO_3, HB⟩ := hrel
  cases gk with
  | zero => exact absurd HA.out (by simp [impl_members.l0])
  | succ k1 =>
   have H := HA.out
   clear HA
   simp only [impl_members.l0] at H
   by_cases c4 : x0_1 = 0
   ·rw [if_pos c4] at H
    obtain ⟨c4b0, c4b1⟩ := zT1 c4
    clear c4
    obtain rfl := Option.some.inj H
    go_wp2
    go_ret
    exact ⟨_, zr, zP HO_3.out, zQ HB.out⟩
   rw [if_neg c4] at H
   obtain ⟨c4b0, c4b1⟩ := zT2 c4
   obtain ⟨t281, A5, H⟩ := zb H
   try dsimp only at H
   by_cases c6 : x3_1.length < 17592186044416
   ·rw [if_pos c6] at H
    have LMc6 := zA c6
    clear c6
    obtain ⟨y282, hy282⟩ : ∃ y_ : List Int, y_ = (x3_1 ++ [t281]) := ⟨_, rfl⟩
    replace H : (impl_members.l0 k1 (Go.bits .and .i64 x0_1 (wrap64 (x0_1 - 1))) y282) = some r := zy hy282 H
    have Ny282 := zA hy282
    clear hy282
    have H' := zA H
    clear H
    go_wp2_with (first | (refine zO (some 13) Tryd.func75 #[.int .i64 x0_1] ?_; (with_reducible refine (impl_least.calls x0_1 t281 _ ?side1 A5.out).mono ?_); (case side1 => exact TabW.below HT.out (zQ HB.out)); rintro e w' ⟨rfl, ⟨nd, rfl⟩⟩; refine ⟨_, rfl, ?_⟩) | ((with_reducible refine gate_builtin (b := .append) (xs := #[.tmp 11, .tmp 14]) rfl ?_); at_builtin; refine Kd.R_append (Kd.int .i64) (w0 := w) w.heap.size rfl (.tmp 11) (.tmp 14) 22 2 (.int .i64 0) 8 rfl Tryd.underlying22 info2 rfl (by decide) (by omega) u3 x3_1 t281 [.int .i64 t281] (fun _ => True) (fun _ => False) rfl rfl ?aP (fun _ hk => hk.elim) ?aF ?aO ?aB ?aS ?aL ?_; (case aP => exact rfl); (case aB => exact (zQ HB.out)); (case aF => exact (fun _ _ => trivial)); (case aO => exact (zP HO_3.out)); (case aS => exact (kP (zQ HB.out))); (case aL => have := LMc6.out; omega); intro v283 w7 ho hb hg hat; rw [← Ny282.out] at ho; replace HB := zA (hb); have HO284 := zA (ho); clear HO_3; clear ho hb hg hat))
    go_roundg k1
    case measure => have := HK1.out; omega
    case rel => exact ⟨(Go.bits .and .i64 x0_1 (wrap64 (x0_1 - 1))), (y282), zs, H', ⟨by have := HK1.out; omega⟩, ⟨zP HO284.out⟩, ⟨zQ HB.out⟩⟩
   rw [if_neg c6] at H
   exact absurd H (by simp)

/-! ### impl_converse: function 60 -/
mutual
def impl_converse.l0 : Nat → List Int → List Int → Int → Int → Option (List Int)
 | 0, _, _, _, _ => none
 | k + 1, x3, x11, x12, x13 => if x13 < x12 then (if 0 ≤ x13 then (if x13 < (x11.length : Int) then ((impl_members.f k (rd x11 x13)).bind fun t289 => (impl_converse.l1 k x3 x13 x11 x12 x13 t289 (t289.length : Int) 0)) else (none)) else (none)) else (some x3)
def impl_converse.l1 : Nat → List Int → Int → List Int → Int → Int → List Int → Int → Int → Option (List Int)
 | 0, _, _, _, _, _, _, _, _ => none
 | k + 1, x3, x4, x11, x12, x13, x19, x20, x21 => if x21 < x20 then (if 0 ≤ x21 then (if x21 < (x19.length : Int) then (if 0 ≤ (rd x19 x21) then (if (rd x19 x21) < (x3.length : Int) then ((impl_one.f x4).bind fun t294 => (impl_converse.l1 k (x3.set ((rd x19 x21) : Int).toNat (Go.bits .or .i64 (rd x3 (rd x19 x21)) t294)) x4 x11 x12 x13 x19 x20 (wrap64 (x21 + 1)))) else (none)) else (none)) else (none)) else (none)) else (impl_converse.l0 k x3 x11 x12 (wrap64 (x13 + 1)))
end
def impl_converse.f (k : Nat) (l0 : List Int) : Option (List Int) := if 0 ≤ (l0.length : Int) then (if ((l0.length : Int) : Int).toNat ≤ 35184372088832 then (impl_converse.l0 k (List.replicate ((l0.length : Int) : Int).toNat 0) l0 (l0.length : Int) 0) else (none)) else (none)

def impl_converse.T8 : Bool × List (List Nat × List Nat) := (true, [([], []), ([], []), ([0, 1], [0, 1]), ([2], [2]), ([], []), ([4], [4]), ([3, 5], [3, 5]), ([0, 1, 0, 1, 2, 3, 4, 5, 6], [0, 1]), ([7, 6, 5, 0, 1, 2, 3, 4, 5, 6], [6, 7])])
def impl_converse.B8 : List Nat := [0, 0, 3, 7, 0, 16, 63, 127, 255]
theorem impl_converse.tab8 : rtab .any (opsOf Tryd.f60 8) = impl_converse.T8 := by kernel_rfl
theorem impl_converse.bits8 : waitsOk impl_converse.T8.2 impl_converse.B8 = true := by kernel_rfl
set_option maxHeartbeats 8000000 in
set_option maxRecDepth 100000 in
theorem impl_converse.calls (k : Nat) (A0 : Option Addr) (c0 : Nat) (l0 : List Int) (r : List Int) (w : World) (hr0 : Kd.C (Kd.int .i64) w A0 l0.length l0) (hc0 : l0.length ≤ c0) (hT : TabW w) (h : impl_converse.f k l0 = some r) :
  Calls Tryd.prog 60 #[.slice A0 l0.length c0] w fun e w' => ∃ v0_ : Value, e = .returned (v0_) ∧ Kd.R (Kd.int .i64) 2 w' w.heap.size (fun _ => True) v0_ r ∧ Below w.heap.size w w' := by
 have HT := zA hT
 clear hT
 have HR0 := zA hr0
 have HC0 := zA hc0
 clear hr0 hc0
 have HB := zA (kW w.heap.size w)
 have H := h
 unfold impl_converse.f at H
 clear h
 by_cases c2 : 0 ≤ (l0.length : Int)
 ·rw [if_pos c2] at H
  have c2b0 := eq_true c2
  have c2b1 : decide (0 ≤ (l0.length : Int)) = true := decide_eq_true c2
  clear c2
  by_cases c3 : ((l0.length : Int) : Int).toNat ≤ 35184372088832
  ·rw [if_pos c3] at H
   have c3b0 := eq_true c3
   have c3b1 : decide (((l0.length : Int) : Int).toNat ≤ 35184372088832) = true := decide_eq_true c3
   clear c3
   obtain ⟨y285, hy285⟩ : ∃ y_ : List Int, y_ = (List.replicate ((l0.length : Int) : Int).toNat 0) := ⟨_, rfl⟩
   replace H : (impl_converse.l0 k y285 l0 (l0.length : Int) 0) = some r := zy hy285 H
   have Ny285 := zA hy285
   clear hy285
   have H' := zA H
   clear H
   go_enter Tryd.func60, Tryd.ntmps60
   go_wp2_with (first | ((with_reducible refine kS (N := 10) rfl ?_); refine Kd.R_make (Kd.int .i64) _ 2 rfl (N := 10) rfl 22 _ _ rfl (l0.length : Int) rfl rfl Tryd.underlying22 (.int .i64 0) 8 info2 rfl (by decide) (by omega) 0 (ok := fun _ => True) (okp := fun _ => True) rfl (fun _ hk => hk) trivial (zd) (Nat.le_trans (Nat.mul_le_mul_right _ (zd : (l0.length : Int).toNat ≤ 35184372088832)) (by omega)) (kW _ _) (Nat.le_refl _) ?_; intro v286 w4 ho5 hb hg_ hnew_; clear hg_ hnew_; (first | rw [← Ny285.out] at ho5 | (simp only [Int.reduceToNat] at ho5; rw [← Ny285.out] at ho5)); have HO287 := zA (kI ho5 (kP (zQ HB.out))); replace HB := zA (kQ (zQ HB.out) hb); clear hb ho5))
   go_loopg [13] k (fun kq v13 w' => ∃ (x3_1 : List Int) (x13_1 : Int), v13 = .int .i64 x13_1 ∧ Aside0 (impl_converse.l0 kq x3_1 l0 (l0.length : Int) x13_1 = some r) ∧ Aside0 (kq ≤ k) ∧ Aside0 (Kd.R (Kd.int .i64) 2 w' w.heap.size (fun _ => True) v286 x3_1) ∧ Aside0 (Below w.heap.size w w'))
   case atStart => exact ⟨(y285), (0), zs, H', ⟨Nat.le_refl _⟩, ⟨zP HO287.out⟩, ⟨zQ HB.out⟩⟩
   case round =>
    clear H'
    try clear c2
    try clear c3
    obtain ⟨x3_1, x13_1, rfl, HA, HK1, HO_3, HB⟩ := hrel
    cases gk with
    | zero => exact absurd HA.out (by simp [impl_converse.l0])
    | succ k1 =>
     have H := HA.out
     clear HA
     simp only [impl_converse.l0] at H
     by_cases c6 : x13_1 < (l0.length : Int)
     ·rw [if_pos c6] at H
      have c6b0 : decide (x13_1 < (l0.length : Int)) = true := decide_eq_true c6
      clear c6
      by_cases c7 : 0 ≤ x13_1
      ·rw [if_pos c7] at H
       have c7b0 : decide (0 ≤ x13_1) = true := decide_eq_true c7
       clear c7
       by_cases c8 : x13_1 < (l0.length : Int)
       ·rw [if_pos c8] at H
        have c8b0 : decide (x13_1 < (l0.length : Int)) = true := decide_eq_true c8
        clear c8
        obtain ⟨t289, A9, H⟩ := zb H
        try dsimp only at H
        have H' := zA H
        clear H
        have p288 : 0 ≤ (x13_1 : Int) := zd
        have q288 : x13_1 < (l0.length : Int) := zd
        obtain ⟨ad288, e288, hx288_0⟩ := Kd.at_int HR0.out x13_1 p288 q288
        cases e288
        replace hx288_0 := (HB.out.cell (jG w _ hx288_0)).trans hx288_0
        replace p288 := eq_true p288
        replace q288 := eq_true q288
        go_wp2_with (first | (refine zO (some 19) Tryd.func66 #[.int .i64 (rd l0 x13_1)] ?_; (with_reducible refine (impl_members.calls k1 (rd l0 x13_1) t289 _ ?side1 A9.out).mono ?_); (case side1 => exact TabW.below HT.out (zQ HB.out)); rintro e w10 ⟨v290, rfl, ho0, hb⟩; refine ⟨_, rfl, ?_⟩; have HO291 := zA (kI (kF ho0 (kH (zP HO_3.out))) (kP (zQ HB.out))); replace HO_3 := zA (kE (zP HO_3.out) (kC ho0) hb); replace HB := zA (kQ (zQ HB.out) hb); (try clear hb); (try clear ho0); obtain ⟨Ao11, co11, eo11⟩ := kM HO291.out; subst eo11))
        go_loopg [21] k1 (fun kq v21 w' => ∃ (x3_2 : List Int) (x21_2 : Int), v21 = .int .i64 x21_2 ∧ Aside0 (impl_converse.l1 kq x3_2 x13_1 l0 (l0.length : Int) x13_1 t289 (t289.length : Int) x21_2 = some r) ∧ Aside0 (kq ≤ k1) ∧ Aside0 (Kd.R (Kd.int .i64) 2 w' w.heap.size (fun k_ => some k_ ≠ ((.slice Ao11 t289.length co11) : Value).ownBlock) v286 x3_2) ∧ Aside0 (Kd.R (Kd.int .i64) 2 w' w.heap.size (fun k_ => some k_ ≠ (v286 : Value).ownBlock) (.slice Ao11 t289.length co11) t289) ∧ Aside0 (Below w.heap.size w w'))
        case atStart => exact ⟨(x3_1), (0), zs, H', ⟨Nat.le_refl _⟩, ⟨zPM HO_3.out (fun _ hk => hk.2)⟩, ⟨zPM HO291.out (fun _ hk => hk.2)⟩, ⟨zQ HB.out⟩⟩
        case round =>
         clear H'
         try clear c2
         try clear hx2
         try clear c3
         try clear c6
         try clear c7
         try clear c8
         try clear hx288_0
         obtain ⟨x3_2, x21_2, rfl, HA, HK2, HO_3, HO_19, HB⟩ := hrel
         cases gk with
         | zero => exact absurd HA.out (by simp [impl_converse.l1])
         | succ k2 =>
          have H := HA.out
          clear HA
          simp only [impl_converse.l1] at H
          by_cases c12 : x21_2 < (t289.length : Int)
          ·rw [if_pos c12] at H
           have c12b0 : decide (x21_2 < (t289.length : Int)) = true := decide_eq_true c12
           clear c12
           by_cases c13 : 0 ≤ x21_2
           ·rw [if_pos c13] at H
            have c13b0 : decide (0 ≤ x21_2) = true := decide_eq_true c13
            clear c13
            by_cases c14 : x21_2 < (t289.length : Int)
            ·rw [if_pos c14] at H
             have c14b0 : decide (x21_2 < (t289.length : Int)) = true := decide_eq_true c14
             clear c14
             by_cases c15 : 0 ≤ (rd t289 x21_2)
             ·rw [if_pos c15] at H
              have c15b0 : decide (0 ≤ (rd t289 x21_2)) = true := decide_eq_true c15
              clear c15
              by_cases c16 : (rd t289 x21_2) < (x3_2.length : Int)
              ·rw [if_pos c16] at H
               have c16b0 : decide ((rd t289 x21_2) < (x3_2.length : Int)) = true := decide_eq_true c16
               clear c16
               obtain ⟨t294, A17, H⟩ := zb H
               try dsimp only at H
               obtain ⟨y295, hy295⟩ : ∃ y_ : List Int, y_ = (x3_2.set ((rd t289 x21_2) : Int).toNat (Go.bits .or .i64 (rd x3_2 (rd t289 x21_2)) t294)) := ⟨_, rfl⟩
               replace H : (impl_converse.l1 k2 y295 x13_1 l0 (l0.length : Int) x13_1 t289 (t289.length : Int) (wrap64 (x21_2 + 1))) = some r := zy hy295 H
               have Ny295 := zA hy295
               clear hy295
               have H' := zA H
               clear H
               have p292 : 0 ≤ (x21_2 : Int) := zd
               have q292 : x21_2 < (t289.length : Int) := zd
               obtain ⟨ad292, e292, hx292_0⟩ := Kd.at_int (kB HO_19.out).2.2 x21_2 p292 q292
               cases e292
               replace p292 := eq_true p292
               replace q292 := eq_true q292
               try go_wp2
               replace HO_3 := zA (zH HO_3.out)
               replace HO_19 := zA (zH HO_19.out)
               replace HB := zA (zD HB.out)
               obtain ⟨Ao20, co20, eo20⟩ := kM HO_3.out
               (first | subst eo20 | (injection eo20 with f1_ f2_ f3_; have f4_ := f1_.symm; have f5_ := f3_.symm; clear f1_ f2_ f3_; subst f4_; subst f5_))
               have p293 : 0 ≤ ((rd t289 x21_2) : Int) := zd
               have q293 : (rd t289 x21_2) < (x3_2.length : Int) := zd
               obtain ⟨ad293, e293, hx293_0⟩ := Kd.at_int (kB HO_3.out).2.2 (rd t289 x21_2) p293 q293
               cases e293
               replace p293 := eq_true p293
               replace q293 := eq_true q293
               refine start_ (n := 9) (S := fun w' => w'.cell? (ad293.add ((rd t289 x21_2)).toNat) = some (.int .i64 (rd x3_2 (rd t289 x21_2)))) (ds := [8]) #[false, false, false, false, false, false, false, false, false] (by kernel_rfl) rfl rfl (hx293_0) (fun hHeld => ?_); refine with_tabW impl_converse.tab8 impl_converse.bits8 (fun HT_ HW_ => ?_)
               generalize wr.drew = w19 at HO_3 HO_19 HB hx293_0 hHeld ⊢
               refine zp 0 (some 25) #[true, false, false, false, false, false, false, false, false] HT_.out ?_
               refine zp 1 (some 26) #[true, true, false, false, false, false, false, false, false] HT_.out ?_
               refine zp 2 (some 27) #[true, true, true, false, false, false, false, false, false] HT_.out ?_
               refine zp 4 (some 29) #[true, true, true, false, true, false, false, false, false] HT_.out ?_
               refine za 3 (some 28) #[true, true, true, true, true, false, false, false, false] HT_.out HW_.out hHeld ?_
               refine one_ (i := 5) (N := some 30) #[true, true, true, true, true, true, false, false, false] rfl rfl (one_of HT_.out (by kernel_rfl)) (by decide) (fun K hK => ?_)
               refine goes_ Tryd.func61 (by kernel_rfl) rfl #[.int .i64 x13_1] (by rfl) rfl rfl zg ?_
               with_reducible refine (impl_one.calls x13_1 t294 _ A17.out).mono ?_
               rintro e w' ⟨rfl, ⟨nd, rfl⟩⟩
               refine ⟨_, rfl, ?_⟩
               have p18 : 0 ≤ ((rd t289 x21_2) : Int) := zd
               have q18 : ((rd t289 x21_2) : Int) < ((x3_2.length : Int) : Int) := zd
               obtain ⟨go18, co18, eo18, gb18, gl18, cl18, HG18⟩ := Kd.R_form HO_3.out (by omega)
               (first | cases eo18 | (injection eo18 with ea_ en_ ec_; (first | subst ea_ | (injection ea_ with ea_; subst ea_)); subst ec_; clear en_))
               have GB18 := zA gb18
               have GG18 := zA HG18
               clear gb18 gl18 HG18
               (first | simp only [add_plain] at hx293_0 | skip)
               obtain ⟨hx18_0, hf18_0⟩ := Kd.R_celln 0 HO_3.out ((rd t289 x21_2) : Int) p18 q18
               replace p18 := eq_true p18
               replace q18 := eq_true q18
               have HP21 := Kd.R_putn HO_3.out ((rd t289 x21_2) : Int) (Go.bits .or .i64 (rd x3_2 (rd t289 x21_2)) t294)
               rw [← Ny295.out] at HP21
               have HQ21 := zA HP21
               clear HP21
               refine hK.out _ _ (hHeld) (fun hHeld => ?_)
               clear hK K
               refine norm_ (a' := ?_) ?_ ?_
               rotate_left
               ·show Act.put _ (some 30) _ = _
                simp only [Act.put, zL, zM, zN, i64_w, i32_w]
                rfl
               refine zp 6 (some 31) #[true, true, true, true, true, true, true, false, false] HT_.out ?_
               refine zp 7 (some 32) #[true, true, true, true, true, true, true, true, false] HT_.out ?_
               refine last_ (i := 8) (N := none) #[true, true, true, true, true, true, true, true, true] rfl rfl (one_of HT_.out (by kernel_rfl)) (by decide) (fun K hK => ?_)
               refine skip_ (w1 := ?_) (by rfl) rfl ?_ ?_
               rotate_left
               ·go_simp
                rfl
               refine hK.out _ _ ?_
               clear hK K
               refine done_ (done_of HT_.out (by kernel_rfl)) ?_
               try go_wp2
               go_roundg k2
               case measure => have := HK1.out; have := HK2.out; omega
               case rel => exact ⟨(y295), (wrap64 (x21_2 + 1)), zs, H', ⟨by have := HK1.out; have := HK2.out; omega⟩, ⟨zP HQ21.out⟩, ⟨by (with_reducible repeat (first | apply zF | apply zG | apply zH)); exact kA (kY (p := ⟨go18, ((rd t289 x21_2) : Int).toNat, none⟩) (kA HO_19.out (fun k_ hk => (⟨hk, fun e_ => hk (by rw [e_]; rfl)⟩ : _ ∧ k_ ≠ go18))) (fun _ hk => hk.2) (.int .i64 (Go.bits .or .i64 (rd x3_2 (rd t289 x21_2)) t294))) (fun _ hk => hk.1)⟩, ⟨zT HB.out GB18.out⟩⟩
              rw [if_neg c16] at H
              exact absurd H (by simp)
             rw [if_neg c15] at H
             exact absurd H (by simp)
            rw [if_neg c14] at H
            exact absurd H (by simp)
           rw [if_neg c13] at H
           exact absurd H (by simp)
          rw [if_neg c12] at H
          have c12b0 : decide (x21_2 < (t289.length : Int)) = false := decide_eq_false c12
          clear c12
          have H' := zA H
          clear H
          go_wp2
          go_roundg k2
          case measure => have := HK1.out; have := HK2.out; omega
          case rel => exact ⟨(x3_2), (wrap64 (x13_1 + 1)), zs, H', ⟨by have := HK1.out; have := HK2.out; omega⟩, ⟨zPM HO_3.out (fun _ hk => trivial)⟩, ⟨zQ HB.out⟩⟩
       rw [if_neg c8] at H
       exact absurd H (by simp)
      rw [if_neg c7] at H
      exact absurd H (by simp)
     rw [if_neg c6] at H
     have c6b0 : decide (x13_1 < (l0.length : Int)) = false := decide_eq_false c6
     clear c6
     obtain rfl := Option.some.inj H
     go_wp2
     go_ret
     exact ⟨_, zr, zP HO_3.out, zQ HB.out⟩
  rw [if_neg c3] at H
  exact absurd H (by simp)
 rw [if_neg c2] at H
 exact absurd H (by simp)

/-! ### impl_IsAlphabet: function 38 -/
mutual
def impl_IsAlphabet.j0 : Nat → Bool → Int → List Int → Option (Bool)
 | 0, _, _, _ => none
 | k + 1, x22, x297000, x297001 => if x22 = true then (some false) else ((impl_converse.f k x297001).bind fun t300 => (impl_IsAlphabet.l0 k t300 (t300.length : Int) 0 x297000 x297001))
def impl_IsAlphabet.l0 : Nat → List Int → Int → Int → Int → List Int → Option (Bool)
 | 0, _, _, _, _, _ => none
 | k + 1, x25, x26, x27, x297000, x297001 => if x27 < x26 then (if 0 ≤ x27 then (if x27 < (x25.length : Int) then (if x27 < (x297001.length : Int) then (if (rd x25 x27) = (rd x297001 x27) then ((impl_has.f (rd x25 x27) x27).bind fun t305 => (if t305 = true then (impl_IsAlphabet.l0 k x25 x26 (wrap64 (x27 + 1)) x297000 x297001) else (some false))) else (some false)) else (none)) else (none)) else (none)) else (some true)
end
def impl_IsAlphabet.f (k : Nat) (a0_0 : Int) (l0_1 : List Int) : Option (Bool) := (impl_inRange.f a0_0 0 8).bind fun t297 => (if t297 = true then ((impl_length_int64.f l0_1).bind fun t298 => (if t298 = a0_0 then ((impl_IsRelation.f l0_1).bind fun t299 => (impl_IsAlphabet.j0 k (!t299) a0_0 l0_1)) else (impl_IsAlphabet.j0 k true a0_0 l0_1))) else (impl_IsAlphabet.j0 k true a0_0 l0_1))

def impl_IsAlphabet.T1 : Bool × List (List Nat × List Nat) := (true, [([], []), ([0], [0]), ([1], [1]), ([2], [2]), ([3, 2], [3]), ([4], [4]), ([5, 4], [4, 5]), ([6, 4, 4], [4, 6]), ([4], [4]), ([8, 4], [4, 8]), ([7, 9, 4], [4, 7, 9]), ([4, 10], [4, 10]), ([11, 7], [11]), ([12], [12]), ([13, 12], [12, 13]), ([14, 12, 12], [12, 14]), ([15, 12], [12, 15]), ([12, 16], [12, 16])])
def impl_IsAlphabet.B1 : List Nat := [0, 1, 3, 7, 15, 31, 63, 127, 31, 287, 1023, 2047, 4095, 8191, 16383, 32767, 65535, 131071]
theorem impl_IsAlphabet.tab1 : rtab .any (opsOf Tryd.f38 1) = impl_IsAlphabet.T1 := by kernel_rfl
theorem impl_IsAlphabet.bits1 : waitsOk impl_IsAlphabet.T1.2 impl_IsAlphabet.B1 = true := by kernel_rfl
set_option maxHeartbeats 8000000 in
set_option maxRecDepth 100000 in
theorem impl_IsAlphabet.calls (k : Nat) (a0_0 : Int) (A0_1 : Option Addr) (c0_1 : Nat) (l0_1 : List Int) (r : Bool) (w : World) (hr0_1 : Kd.C (Kd.int .i64) w A0_1 l0_1.length l0_1) (hc0_1 : l0_1.length ≤ c0_1) (hT : TabW w) (h : impl_IsAlphabet.f k a0_0 l0_1 = some r) :
  Calls Tryd.prog 38 #[.agg #[.int .i64 a0_0, .slice A0_1 l0_1.length c0_1]] w fun e w' => e = .returned (.bool r) ∧ Below w.heap.size w w' := by
 have hu29 := Tryd.underlying29
 have HT := zA hT
 clear hT
 have HR0_1 := zA hr0_1
 have HC0_1 := zA hc0_1
 clear hr0_1 hc0_1
 have HB := zA (kW w.heap.size w)
 have H := h
 unfold impl_IsAlphabet.f at H
 clear h
 have HC2 := zA H
 clear H
 go_enter Tryd.func38, Tryd.ntmps38
 go_upto_region 1 with (first | (refine zBE 1 #[.int .i64 a0_0, .slice A0_1 l0_1.length c0_1] 29 ?_; intro gb296 hg w3 hbox hb; have BK296 := zA (hbox); have GW296 := zA (zBH hg HB.out); have GE296 := zA (zBH hg HB.out); replace HB := zA (kQ (zQ HB.out) hb); clear hb hbox hg))
 (try simp only [Act.put, zL, zM, zN])
 go_cut [22] (fun v22 wc => ∃ (kq : Nat) (x22_1 : Bool), v22 = .bool x22_1 ∧ Aside0 (impl_IsAlphabet.j0 kq x22_1 a0_0 l0_1 = some r) ∧ Aside0 (kq ≤ k) ∧ Aside0 (wc.heap[gb296]? = some (.cells #[.int .i64 a0_0, (.slice A0_1 l0_1.length c0_1)] 29 (0, 0))) ∧ Aside0 (Below w.heap.size w wc))
 case first =>
  have H := HC2.out
  clear HC2
  obtain ⟨t297, A4, H⟩ := zb H
  try dsimp only at H
  by_cases c5 : t297 = true
  ·subst c5
   rw [if_pos rfl] at H
   obtain ⟨t298, A6, H⟩ := zb H
   try dsimp only at H
   by_cases c7 : t298 = a0_0
   ·rw [if_pos c7] at H
    obtain ⟨c7b0, c7b1⟩ := zT1 c7
    clear c7
    (first | rw [c7b0] | (simp only [i64_w, i32_w]; rw [c7b0]) | skip)
    obtain ⟨t299, A8, H⟩ := zb H
    try dsimp only at H
    have H' := zA H
    clear H
    try go_wp2
    replace BK296 := zA (zK BK296.out)
    replace HB := zA (zD HB.out)
    refine start_ (n := 18) (S := fun w' => w'.cell? ⟨gb296, 0, none⟩ = some (.int .i64 a0_0) ∧ w'.cell? ⟨gb296, 1, none⟩ = some (.slice A0_1 l0_1.length c0_1)) (ds := []) #[false, false, false, false, false, false, false, false, false, false, false, false, false, false, false, false, false, false] (by kernel_rfl) rfl rfl ⟨(kV BK296.out 0).trans rfl, (kV BK296.out 1).trans rfl⟩ (fun hHeld => ?_); refine with_tabW impl_IsAlphabet.tab1 impl_IsAlphabet.bits1 (fun HT_ HW_ => ?_)
    generalize w3.drew = w9 at BK296 HB hHeld ⊢
    refine zp 0 (some 5) #[true, false, false, false, false, false, false, false, false, false, false, false, false, false, false, false, false, false] HT_.out ?_
    refine zc 1 (some 6) #[true, true, false, false, false, false, false, false, false, false, false, false, false, false, false, false, false, false] HT_.out HW_.out hHeld ?_
    refine one_ (i := 2) (N := some 7) #[true, true, true, false, false, false, false, false, false, false, false, false, false, false, false, false, false, false] rfl rfl (one_of HT_.out (by kernel_rfl)) (by decide) (fun K hK => ?_)
    refine goes_ Tryd.func39 (by kernel_rfl) rfl #[.int .i64 a0_0, .int .i64 0, .int .i64 8] (by rfl) rfl rfl zg ?_
    with_reducible refine (impl_inRange.calls a0_0 0 8 true _ A4.out).mono ?_
    rintro e w' ⟨rfl, ⟨nd, rfl⟩⟩
    refine ⟨_, rfl, ?_⟩
    refine hK.out _ _ ⟨(kV BK296.out 0).trans rfl, (kV BK296.out 1).trans rfl⟩ (fun hHeld => ?_)
    clear hK K
    refine norm_ (a' := ?_) ?_ ?_
    rotate_left
    ·show Act.put _ (some 7) _ = _
     simp only [Act.put, zL, zM, zN, i64_w, i32_w]
     rfl
    refine zp 3 (some 8) #[true, true, true, true, false, false, false, false, false, false, false, false, false, false, false, false, false, false] HT_.out ?_
    refine zp 4 (some 9) #[true, true, true, true, true, false, false, false, false, false, false, false, false, false, false, false, false, false] HT_.out ?_
    refine zp 5 (some 10) #[true, true, true, true, true, true, false, false, false, false, false, false, false, false, false, false, false, false] HT_.out ?_
    refine zp 8 (some 13) #[true, true, true, true, true, true, false, false, true, false, false, false, false, false, false, false, false, false] HT_.out ?_
    refine zc 6 (some 11) #[true, true, true, true, true, true, true, false, true, false, false, false, false, false, false, false, false, false] HT_.out HW_.out hHeld ?_
    refine zc 9 (some 14) #[true, true, true, true, true, true, true, false, true, true, false, false, false, false, false, false, false, false] HT_.out HW_.out hHeld ?_
    refine one_ (i := 7) (N := some 12) #[true, true, true, true, true, true, true, true, true, true, false, false, false, false, false, false, false, false] rfl rfl (one_of HT_.out (by kernel_rfl)) (by decide) (fun K hK => ?_)
    refine goes_ Tryd.func51 (by kernel_rfl) rfl #[.slice A0_1 l0_1.length c0_1] (by rfl) rfl rfl zg ?_
    with_reducible refine (impl_length_int64.calls _ _ l0_1 t298 _ ?side1 ?side2 A6.out).mono ?_
    (case side1 => exact zS (kO HR0_1.out (zT HB.out GE296.out)))
    (case side2 => exact HC0_1.out)
    rintro e w' ⟨rfl, ⟨nd, rfl⟩⟩
    refine ⟨_, rfl, ?_⟩
    refine hK.out _ _ ⟨(kV BK296.out 0).trans rfl, (kV BK296.out 1).trans rfl⟩ (fun hHeld => ?_)
    clear hK K
    refine norm_ (a' := ?_) ?_ ?_
    rotate_left
    ·show Act.put _ (some 12) _ = _
     simp only [Act.put, zL, zM, zN, i64_w, i32_w]
     rfl
    refine zp 10 (some 15) #[true, true, true, true, true, true, true, true, true, true, true, false, false, false, false, false, false, false] HT_.out ?_
    refine zp 11 (some 16) #[true, true, true, true, true, true, true, true, true, true, true, true, false, false, false, false, false, false] HT_.out ?_
    refine zp 12 (some 17) #[true, true, true, true, true, true, true, true, true, true, true, true, true, false, false, false, false, false] HT_.out ?_
    refine zp 13 (some 18) #[true, true, true, true, true, true, true, true, true, true, true, true, true, true, false, false, false, false] HT_.out ?_
    refine zc 14 (some 19) #[true, true, true, true, true, true, true, true, true, true, true, true, true, true, true, false, false, false] HT_.out HW_.out hHeld ?_
    refine one_ (i := 15) (N := some 20) #[true, true, true, true, true, true, true, true, true, true, true, true, true, true, true, true, false, false] rfl rfl (one_of HT_.out (by kernel_rfl)) (by decide) (fun K hK => ?_)
    refine goes_ Tryd.func59 (by kernel_rfl) rfl #[.slice A0_1 l0_1.length c0_1] (by rfl) rfl rfl zg ?_
    with_reducible refine (impl_IsRelation.calls _ _ l0_1 t299 _ ?side1 ?side2 A8.out).mono ?_
    (case side1 => exact zS (kO HR0_1.out (zT HB.out GE296.out)))
    (case side2 => exact HC0_1.out)
    rintro e w10 ⟨rfl, hb⟩
    refine ⟨_, rfl, ?_⟩
    replace BK296 := zA (zB1 BK296.out hb)
    replace HB := zA (kQ (zT HB.out GE296.out) hb)
    (try clear hb)
    (try clear hb2)
    (try clear hk)
    (try clear hi)
    (try clear hgw)
    refine hK.out _ _ ⟨(kV BK296.out 0).trans rfl, (kV BK296.out 1).trans rfl⟩ (fun hHeld => ?_)
    clear hK K
    refine norm_ (a' := ?_) ?_ ?_
    rotate_left
    ·show Act.put _ (some 20) _ = _
     simp only [Act.put, zL, zM, zN, i64_w, i32_w]
     rfl
    refine zp 16 (some 21) #[true, true, true, true, true, true, true, true, true, true, true, true, true, true, true, true, true, false] HT_.out ?_
    refine zp 17 (some 22) #[true, true, true, true, true, true, true, true, true, true, true, true, true, true, true, true, true, true] HT_.out ?_
    refine done_ (done_of HT_.out (by kernel_rfl)) ?_
    try go_wp2
    go_meet
    case rel => exact ⟨_, (!t299), zs, H', ⟨by first | omega | exact Nat.le_refl _⟩, ⟨zR BK296.out⟩, ⟨zT HB.out GE296.out⟩⟩
   rw [if_neg c7] at H
   obtain ⟨c7b0, c7b1⟩ := zT2 c7
   (first | rw [c7b0] | (simp only [i64_w, i32_w]; rw [c7b0]) | skip)
   have H' := zA H
   clear H
   try go_wp2
   replace BK296 := zA (zK BK296.out)
   replace HB := zA (zD HB.out)
   refine start_ (n := 18) (S := fun w' => w'.cell? ⟨gb296, 0, none⟩ = some (.int .i64 a0_0) ∧ w'.cell? ⟨gb296, 1, none⟩ = some (.slice A0_1 l0_1.length c0_1)) (ds := []) #[false, false, false, false, false, false, false, false, false, false, false, false, false, false, false, false, false, false] (by kernel_rfl) rfl rfl ⟨(kV BK296.out 0).trans rfl, (kV BK296.out 1).trans rfl⟩ (fun hHeld => ?_); refine with_tabW impl_IsAlphabet.tab1 impl_IsAlphabet.bits1 (fun HT_ HW_ => ?_)
   generalize w3.drew = w11 at BK296 HB hHeld ⊢
   refine zp 0 (some 5) #[true, false, false, false, false, false, false, false, false, false, false, false, false, false, false, false, false, false] HT_.out ?_
   refine zc 1 (some 6) #[true, true, false, false, false, false, false, false, false, false, false, false, false, false, false, false, false, false] HT_.out HW_.out hHeld ?_
   refine one_ (i := 2) (N := some 7) #[true, true, true, false, false, false, false, false, false, false, false, false, false, false, false, false, false, false] rfl rfl (one_of HT_.out (by kernel_rfl)) (by decide) (fun K hK => ?_)
   refine goes_ Tryd.func39 (by kernel_rfl) rfl #[.int .i64 a0_0, .int .i64 0, .int .i64 8] (by rfl) rfl rfl zg ?_
   with_reducible refine (impl_inRange.calls a0_0 0 8 true _ A4.out).mono ?_
   rintro e w' ⟨rfl, ⟨nd, rfl⟩⟩
   refine ⟨_, rfl, ?_⟩
   refine hK.out _ _ ⟨(kV BK296.out 0).trans rfl, (kV BK296.out 1).trans rfl⟩ (fun hHeld => ?_)
   clear hK K
   refine norm_ (a' := ?_) ?_ ?_
   rotate_left
   ·show Act.put _ (some 7) _ = _
    simp only [Act.put, zL, zM, zN, i64_w, i32_w]
    rfl
   refine zp 3 (some 8) #[true, true, true, true, false, false, false, false, false, false, false, false, false, false, false, false, false, false] HT_.out ?_
   refine zp 4 (some 9) #[true, true, true, true, true, false, false, false, false, false, false, false, false, false, false, false, false, false] HT_.out ?_
   refine zp 5 (some 10) #[true, true, true, true, true, true, false, false, false, false, false, false, false, false, false, false, false, false] HT_.out ?_
   refine zp 8 (some 13) #[true, true, true, true, true, true, false, false, true, false, false, false, false, false, false, false, false, false] HT_.out ?_
   refine zc 6 (some 11) #[true, true, true, true, true, true, true, false, true, false, false, false, false, false, false, false, false, false] HT_.out HW_.out hHeld ?_
   refine zc 9 (some 14) #[true, true, true, true, true, true, true, false, true, true, false, false, false, false, false, false, false, false] HT_.out HW_.out hHeld ?_
   refine one_ (i := 7) (N := some 12) #[true, true, true, true, true, true, true, true, true, true, false, false, false, false, false, false, false, false] rfl rfl (one_of HT_.out (by kernel_rfl)) (by decide) (fun K hK => ?_)
   refine goes_ Tryd.func51 (by kernel_rfl) rfl #[.slice A0_1 l0_1.length c0_1] (by rfl) rfl rfl zg ?_
   with_reducible refine (impl_length_int64.calls _ _ l0_1 t298 _ ?side1 ?side2 A6.out).mono ?_
   (case side1 => exact zS (kO HR0_1.out (zT HB.out GE296.out)))
   (case side2 => exact HC0_1.out)
   rintro e w' ⟨rfl, ⟨nd, rfl⟩⟩
   refine ⟨_, rfl, ?_⟩
   refine hK.out _ _ ⟨(kV BK296.out 0).trans rfl, (kV BK296.out 1).trans rfl⟩ (fun hHeld => ?_)
   clear hK K
   refine norm_ (a' := ?_) ?_ ?_
   rotate_left
   ·show Act.put _ (some 12) _ = _
    simp only [Act.put, zL, zM, zN, i64_w, i32_w]
    rfl
   refine zp 10 (some 15) #[true, true, true, true, true, true, true, true, true, true, true, false, false, false, false, false, false, false] HT_.out ?_
   refine zp 11 (some 16) #[true, true, true, true, true, true, true, true, true, true, true, true, false, false, false, false, false, false] HT_.out ?_
   refine zp 12 (some 17) #[true, true, true, true, true, true, true, true, true, true, true, true, true, false, false, false, false, false] HT_.out ?_
   refine zu 13 (some 18) #[true, true, true, true, true, true, true, true, true, true, true, true, true, true, false, false, false, false] HT_.out ?_
   refine zu 14 (some 19) #[true, true, true, true, true, true, true, true, true, true, true, true, true, true, true, false, false, false] HT_.out ?_
   refine zu 15 (some 20) #[true, true, true, true, true, true, true, true, true, true, true, true, true, true, true, true, false, false] HT_.out ?_
   refine zu 16 (some 21) #[true, true, true, true, true, true, true, true, true, true, true, true, true, true, true, true, true, false] HT_.out ?_
   refine zp 17 (some 22) #[true, true, true, true, true, true, true, true, true, true, true, true, true, true, true, true, true, true] HT_.out ?_
   refine done_ (done_of HT_.out (by kernel_rfl)) ?_
   try go_wp2
   go_meet
   case rel => exact ⟨_, (true), zs, H', ⟨by first | omega | exact Nat.le_refl _⟩, ⟨zR BK296.out⟩, ⟨zT HB.out GE296.out⟩⟩
  replace c5 := Bool.eq_false_iff.mpr c5
  subst c5
  rw [if_neg (show ¬ (false = true) by decide)] at H
  have H' := zA H
  clear H
  try go_wp2
  replace BK296 := zA (zK BK296.out)
  replace HB := zA (zD HB.out)
  refine start_ (n := 18) (S := fun w' => w'.cell? ⟨gb296, 0, none⟩ = some (.int .i64 a0_0) ∧ w'.cell? ⟨gb296, 1, none⟩ = some (.slice A0_1 l0_1.length c0_1)) (ds := []) #[false, false, false, false, false, false, false, false, false, false, false, false, false, false, false, false, false, false] (by kernel_rfl) rfl rfl ⟨(kV BK296.out 0).trans rfl, (kV BK296.out 1).trans rfl⟩ (fun hHeld => ?_); refine with_tabW impl_IsAlphabet.tab1 impl_IsAlphabet.bits1 (fun HT_ HW_ => ?_)
  generalize w3.drew = w12 at BK296 HB hHeld ⊢
  refine zp 0 (some 5) #[true, false, false, false, false, false, false, false, false, false, false, false, false, false, false, false, false, false] HT_.out ?_
  refine zc 1 (some 6) #[true, true, false, false, false, false, false, false, false, false, false, false, false, false, false, false, false, false] HT_.out HW_.out hHeld ?_
  refine one_ (i := 2) (N := some 7) #[true, true, true, false, false, false, false, false, false, false, false, false, false, false, false, false, false, false] rfl rfl (one_of HT_.out (by kernel_rfl)) (by decide) (fun K hK => ?_)
  refine goes_ Tryd.func39 (by kernel_rfl) rfl #[.int .i64 a0_0, .int .i64 0, .int .i64 8] (by rfl) rfl rfl zg ?_
  with_reducible refine (impl_inRange.calls a0_0 0 8 false _ A4.out).mono ?_
  rintro e w' ⟨rfl, ⟨nd, rfl⟩⟩
  refine ⟨_, rfl, ?_⟩
  refine hK.out _ _ ⟨(kV BK296.out 0).trans rfl, (kV BK296.out 1).trans rfl⟩ (fun hHeld => ?_)
  clear hK K
  refine norm_ (a' := ?_) ?_ ?_
  rotate_left
  ·show Act.put _ (some 7) _ = _
   simp only [Act.put, zL, zM, zN, i64_w, i32_w]
   rfl
  refine zp 3 (some 8) #[true, true, true, true, false, false, false, false, false, false, false, false, false, false, false, false, false, false] HT_.out ?_
  refine zp 4 (some 9) #[true, true, true, true, true, false, false, false, false, false, false, false, false, false, false, false, false, false] HT_.out ?_
  refine zu 5 (some 10) #[true, true, true, true, true, true, false, false, false, false, false, false, false, false, false, false, false, false] HT_.out ?_
  refine zu 6 (some 11) #[true, true, true, true, true, true, true, false, false, false, false, false, false, false, false, false, false, false] HT_.out ?_
  refine zu 7 (some 12) #[true, true, true, true, true, true, true, true, false, false, false, false, false, false, false, false, false, false] HT_.out ?_
  refine zu 8 (some 13) #[true, true, true, true, true, true, true, true, true, false, false, false, false, false, false, false, false, false] HT_.out ?_
  refine zu 9 (some 14) #[true, true, true, true, true, true, true, true, true, true, false, false, false, false, false, false, false, false] HT_.out ?_
  refine zu 10 (some 15) #[true, true, true, true, true, true, true, true, true, true, true, false, false, false, false, false, false, false] HT_.out ?_
  refine zp 11 (some 16) #[true, true, true, true, true, true, true, true, true, true, true, true, false, false, false, false, false, false] HT_.out ?_
  refine zp 12 (some 17) #[true, true, true, true, true, true, true, true, true, true, true, true, true, false, false, false, false, false] HT_.out ?_
  refine zu 13 (some 18) #[true, true, true, true, true, true, true, true, true, true, true, true, true, true, false, false, false, false] HT_.out ?_
  refine zu 14 (some 19) #[true, true, true, true, true, true, true, true, true, true, true, true, true, true, true, false, false, false] HT_.out ?_
  refine zu 15 (some 20) #[true, true, true, true, true, true, true, true, true, true, true, true, true, true, true, true, false, false] HT_.out ?_
  refine zu 16 (some 21) #[true, true, true, true, true, true, true, true, true, true, true, true, true, true, true, true, true, false] HT_.out ?_
  refine zp 17 (some 22) #[true, true, true, true, true, true, true, true, true, true, true, true, true, true, true, true, true, true] HT_.out ?_
  refine done_ (done_of HT_.out (by kernel_rfl)) ?_
  try go_wp2
  go_meet
  case rel => exact ⟨_, (true), zs, H', ⟨by first | omega | exact Nat.le_refl _⟩, ⟨zR BK296.out⟩, ⟨zT HB.out GE296.out⟩⟩
 case rest =>
  clear HC2
  try clear c3
  try clear c5
  try clear c7
  obtain ⟨kq, x22_1, rfl, HA, HJ1, BK296, HB⟩ := hcut
  cases kq with
  | zero => exact absurd HA.out (by simp [impl_IsAlphabet.j0])
  | succ kj1 =>
   have H := HA.out
   clear HA
   simp only [impl_IsAlphabet.j0] at H
   by_cases c13 : x22_1 = true
   ·subst c13
    rw [if_pos rfl] at H
    obtain rfl := Option.some.inj H
    go_wp2
    go_ret
    exact ⟨zr, zT HB.out GE296.out⟩
   replace c13 := Bool.eq_false_iff.mpr c13
   subst c13
   rw [if_neg (show ¬ (false = true) by decide)] at H
   obtain ⟨t300, A14, H⟩ := zb H
   try dsimp only at H
   have H' := zA H
   clear H
   obtain ⟨hcz15_0, hcz15_1, hfz15_0, hfz15_1⟩ := zB3 BK296.out
   go_wp2_with (first | (refine zO (some 25) Tryd.func60 #[.slice A0_1 l0_1.length c0_1] ?_; (with_reducible refine (impl_converse.calls kj1 _ _ l0_1 t300 _ ?side1 ?side2 ?side3 A14.out).mono ?_); (case side1 => exact zS (kO HR0_1.out HB.out)); (case side2 => exact HC0_1.out); (case side3 => exact TabW.below HT.out (zT HB.out GE296.out)); rintro e w16 ⟨v301, rfl, ho0, hb⟩; refine ⟨_, rfl, ?_⟩; have HO302 := zA (kI ho0 (kP (zT HB.out GE296.out))); replace BK296 := zA (zB1 BK296.out hb); replace HB := zA (kQ (zT HB.out GE296.out) hb); (try clear hb); (try clear ho0); obtain ⟨Ao17, co17, eo17⟩ := kM HO302.out; subst eo17))
   go_loopg [27] kj1 (fun kq v27 w' => ∃ (x27_2 : Int), v27 = .int .i64 x27_2 ∧ Aside0 (impl_IsAlphabet.l0 kq t300 (t300.length : Int) x27_2 a0_0 l0_1 = some r) ∧ Aside0 (kq ≤ kj1) ∧ Aside0 (Kd.R (Kd.int .i64) 2 w' w.heap.size (fun _ => True) (.slice Ao17 t300.length co17) t300) ∧ Aside0 (w'.heap[gb296]? = some (.cells #[.int .i64 a0_0, (.slice A0_1 l0_1.length c0_1)] 29 (0, 0))) ∧ Aside0 (Below w.heap.size w w'))
   case atStart => exact ⟨(0), zs, H', ⟨Nat.le_refl _⟩, ⟨zP HO302.out⟩, ⟨zR BK296.out⟩, ⟨zT HB.out GE296.out⟩⟩
   case round =>
    clear H'
    try clear c1
    try clear c3
    try clear c5
    try clear c6
    try clear c7
    try clear c13
    try clear hcz15_0
    try clear hcz15_1
    try clear hfz15_0
    try clear hfz15_1
    obtain ⟨x27_2, rfl, HA, HK2, HO_25, BK296, HB⟩ := hrel
    cases gk with
    | zero => exact absurd HA.out (by simp [impl_IsAlphabet.l0])
    | succ k2 =>
     have H := HA.out
     clear HA
     simp only [impl_IsAlphabet.l0] at H
     by_cases c18 : x27_2 < (t300.length : Int)
     ·rw [if_pos c18] at H
      have c18b0 : decide (x27_2 < (t300.length : Int)) = true := decide_eq_true c18
      clear c18
      by_cases c19 : 0 ≤ x27_2
      ·rw [if_pos c19] at H
       have c19b0 : decide (0 ≤ x27_2) = true := decide_eq_true c19
       clear c19
       by_cases c20 : x27_2 < (t300.length : Int)
       ·rw [if_pos c20] at H
        have c20b0 : decide (x27_2 < (t300.length : Int)) = true := decide_eq_true c20
        clear c20
        by_cases c21 : x27_2 < (l0_1.length : Int)
        ·rw [if_pos c21] at H
         have c21b0 : decide (x27_2 < (l0_1.length : Int)) = true := decide_eq_true c21
         clear c21
         by_cases c22 : (rd t300 x27_2) = (rd l0_1 x27_2)
         ·rw [if_pos c22] at H
          obtain ⟨c22b0, c22b1⟩ := zT1 c22
          clear c22
          obtain ⟨t305, A23, H⟩ := zb H
          try dsimp only at H
          by_cases c24 : t305 = true
          ·subst c24
           rw [if_pos rfl] at H
           have H' := zA H
           clear H
           have p303 : 0 ≤ (x27_2 : Int) := zd
           have q303 : x27_2 < (t300.length : Int) := zd
           obtain ⟨ad303, e303, hx303_0⟩ := Kd.at_int (kB HO_25.out).2.2 x27_2 p303 q303
           cases e303
           replace p303 := eq_true p303
           replace q303 := eq_true q303
           obtain ⟨hcz25_0, hcz25_1, hfz25_0, hfz25_1⟩ := zB3 BK296.out
           have p304 : 0 ≤ (x27_2 : Int) := zd
           have q304 : x27_2 < (l0_1.length : Int) := zd
           obtain ⟨ad304, e304, hx304_0⟩ := Kd.at_int HR0_1.out x27_2 p304 q304
           cases e304
           replace hx304_0 := (HB.out.cell (jG w _ hx304_0)).trans hx304_0
           replace p304 := eq_true p304
           replace q304 := eq_true q304
           go_wp2_with (first | (go_at_call 52; (with_reducible refine (impl_has.calls (rd t300 x27_2) x27_2 true _ A23.out).mono ?_); rintro e w' ⟨rfl, ⟨nd, rfl⟩⟩))
           go_roundg k2
           case measure => have := HJ1.out; have := HK2.out; omega
           case rel => exact ⟨(wrap64 (x27_2 + 1)), zs, H', ⟨by have := HJ1.out; have := HK2.out; omega⟩, ⟨zP HO_25.out⟩, ⟨zR BK296.out⟩, ⟨zT HB.out GE296.out⟩⟩
          replace c24 := Bool.eq_false_iff.mpr c24
          subst c24
          rw [if_neg (show ¬ (false = true) by decide)] at H
          obtain rfl := Option.some.inj H
          have p303 : 0 ≤ (x27_2 : Int) := zd
          have q303 : x27_2 < (t300.length : Int) := zd
          obtain ⟨ad303, e303, hx303_0⟩ := Kd.at_int (kB HO_25.out).2.2 x27_2 p303 q303
          cases e303
          replace p303 := eq_true p303
          replace q303 := eq_true q303
          obtain ⟨hcz26_0, hcz26_1, hfz26_0, hfz26_1⟩ := zB3 BK296.out
          have p304 : 0 ≤ (x27_2 : Int) := zd
          have q304 : x27_2 < (l0_1.length : Int) := zd
          obtain ⟨ad304, e304, hx304_0⟩ := Kd.at_int HR0_1.out x27_2 p304 q304
          cases e304
          replace hx304_0 := (HB.out.cell (jG w _ hx304_0)).trans hx304_0
          replace p304 := eq_true p304
          replace q304 := eq_true q304
          go_wp2_with (first | (go_at_call 52; (with_reducible refine (impl_has.calls (rd t300 x27_2) x27_2 false _ A23.out).mono ?_); rintro e w' ⟨rfl, ⟨nd, rfl⟩⟩))
          go_ret
          exact ⟨zr, zT HB.out GE296.out⟩
         rw [if_neg c22] at H
         obtain ⟨c22b0, c22b1⟩ := zT2 c22
         obtain rfl := Option.some.inj H
         have p303 : 0 ≤ (x27_2 : Int) := zd
         have q303 : x27_2 < (t300.length : Int) := zd
         obtain ⟨ad303, e303, hx303_0⟩ := Kd.at_int (kB HO_25.out).2.2 x27_2 p303 q303
         cases e303
         replace p303 := eq_true p303
         replace q303 := eq_true q303
         obtain ⟨hcz27_0, hcz27_1, hfz27_0, hfz27_1⟩ := zB3 BK296.out
         have p304 : 0 ≤ (x27_2 : Int) := zd
         have q304 : x27_2 < (l0_1.length : Int) := zd
         obtain ⟨ad304, e304, hx304_0⟩ := Kd.at_int HR0_1.out x27_2 p304 q304
         cases e304
         replace hx304_0 := (HB.out.cell (jG w _ hx304_0)).trans hx304_0
         replace p304 := eq_true p304
         replace q304 := eq_true q304
         go_wp2
         go_ret
         exact ⟨zr, zT HB.out GE296.out⟩
        rw [if_neg c21] at H
        exact absurd H (by simp)
       rw [if_neg c20] at H
       exact absurd H (by simp)
      rw [if_neg c19] at H
      exact absurd H (by simp)
     rw [if_neg c18] at H
     have c18b0 : decide (x27_2 < (t300.length : Int)) = false := decide_eq_false c18
     clear c18
     obtain rfl := Option.some.inj H
     go_wp2
     go_ret
     exact ⟨zr, zT HB.out GE296.out⟩

/-! ### impl_inverse: function 49 -/
mutual
def impl_inverse.l0 : Nat → List Int → Int → List Int → Int → Option (List Int × Int)
 | 0, _, _, _, _ => none
 | k + 1, x0, x1, x6, x7 => if x7 ≤ x1 then (impl_inverse.l1 k x0 x1 x6 x7 0 0 1) else (some (x6, 0))
def impl_inverse.j2 : Nat → List Int → Int → List Int → Int → Int → Int → Option (List Int × Int)
 | 0, _, _, _, _, _, _ => none
 | k + 1, x0, x1, x6, x7, x8, x9 => if (wrap64 (x8 + (wrap64 (Int.tdiv x9 1000000)))) > 2000000000 then (impl_inverse.j3 k x0 x1 x6 x7 (wrap64 (x8 + (wrap64 (Int.tdiv x9 1000000)))) (Int.tmod x9 1000000) true) else (impl_inverse.j3 k x0 x1 x6 x7 (wrap64 (x8 + (wrap64 (Int.tdiv x9 1000000)))) (Int.tmod x9 1000000) (decide ((wrap64 (x8 + (wrap64 (Int.tdiv x9 1000000)))) < (-2000000000))))
def impl_inverse.j3 : Nat → List Int → Int → List Int → Int → Int → Int → Bool → Option (List Int × Int)
 | 0, _, _, _, _, _, _, _ => none
 | k + 1, x0, x1, x6, x7, x8, x9, x68 => if x68 = true then (some (([] : List Int), 3)) else ((impl_inRange.f (wrap64 ((wrap64 (x8 * 1000000)) + x9)) (-1000000000000000) 1000000000000000).bind fun t314 => (if t314 = true then (if x6.length < 17592186044416 then (impl_inverse.l0 k x0 x1 (x6 ++ [wrap64 ((wrap64 (x8 * 1000000)) + x9)]) (wrap64 (x7 + 1))) else (none)) else (some (([] : List Int), 3))))
def impl_inverse.l1 : Nat → List Int → Int → List Int → Int → Int → Int → Int → Option (List Int × Int)
 | 0, _, _, _, _, _, _, _ => none
 | k + 1, x0, x1, x6, x7, x8, x9, x10 => if x10 ≤ x7 then ((impl_length_int64.f x0).bind fun t309 => (if x10 < t309 then (if 0 ≤ x10 then (if x10 < (x0.length : Int) then (if 0 ≤ (wrap64 (x7 - x10)) then (if (wrap64 (x7 - x10)) < (x6.length : Int) then (impl_inverse.l1 k x0 x1 x6 x7 (wrap64 (x8 - (wrap64 ((rd x0 x10) * (wrap64 (Int.tdiv (rd x6 (wrap64 (x7 - x10))) 1000000)))))) (wrap64 (x9 - (wrap64 ((rd x0 x10) * (Int.tmod (rd x6 (wrap64 (x7 - x10))) 1000000))))) (wrap64 (x10 + 1))) else (none)) else (none)) else (none)) else (none)) else (impl_inverse.j2 k x0 x1 x6 x7 x8 x9))) else (impl_inverse.j2 k x0 x1 x6 x7 x8 x9)
end
def impl_inverse.f (k : Nat) (l0 : List Int) (a1 : Int) : Option (List Int × Int) := impl_inverse.l0 k l0 a1 (([1] : List Int)) 1

set_option maxHeartbeats 8000000 in
set_option maxRecDepth 100000 in
theorem impl_inverse.calls (k : Nat) (A0 : Option Addr) (c0 : Nat) (l0 : List Int) (a1 : Int) (r1 : List Int) (r2 : Int) (w : World) (hr0 : Kd.C (Kd.int .i64) w A0 l0.length l0) (hc0 : l0.length ≤ c0) (h : impl_inverse.f k l0 a1 = some (r1, r2)) :
  Calls Tryd.prog 49 #[.slice A0 l0.length c0, .int .i64 a1] w fun e w' => ∃ v0_ : Value, e = .returned (.tuple #[v0_, .int .i64 r2]) ∧ Kd.R (Kd.int .i64) 2 w' w.heap.size (fun _ => True) v0_ r1 ∧ Below w.heap.size w w' := by
 have HR0 := zA hr0
 have HC0 := zA hc0
 clear hr0 hc0
 have HB := zA (kW w.heap.size w)
 have H := h
 unfold impl_inverse.f at H
 clear h
 obtain ⟨y306, hy306⟩ : ∃ y_ : List Int, y_ = (([1] : List Int)) := ⟨_, rfl⟩
 replace H : (impl_inverse.l0 k l0 a1 y306 1) = some (r1, r2) := zy hy306 H
 have Ny306 := zA hy306
 clear hy306
 have H' := zA H
 clear H
 go_enter Tryd.func49, Tryd.ntmps49
 go_wp2_with (first | ((with_reducible refine kS (N := 12) rfl ?_); refine Kd.R_lit (Kd.int .i64) _ 2 ?hg (N := 12) ?hd (xs := ([1] : List Int)) (inner := [.int .i64 1]) (ok := fun _ => True) (okp := fun _ => True) ?hr ?hp (fun _ hk => hk) trivial (kW _ _) (Nat.le_refl _) (by simp) ?_; (case hd => rfl); (case hg => rfl); (case hr => first | (go_simp; done) | (go_simp; rfl)); (case hp => exact (Reps.one (show Kd.M (Kd.int .i64) _ _ _ 1 [.int .i64 1] from rfl) (Reps.none _ _))); intro v307 w3 ho4 hb hg_ hnew_; clear hg_ hnew_; (first | rw [← Ny306.out] at ho4 | (simp only [Int.reduceToNat] at ho4; rw [← Ny306.out] at ho4)); have HO308 := zA (kI ho4 (kP (zQ HB.out))); replace HB := zA (kQ (zQ HB.out) hb); clear hb ho4))
 repeat (go_quiet (first | ((with_reducible refine kS (N := 12) rfl ?_); refine Kd.R_lit (Kd.int .i64) _ 2 ?hg (N := 12) ?hd (xs := ([1] : List Int)) (inner := [.int .i64 1]) (ok := fun _ => True) (okp := fun _ => True) ?hr ?hp (fun _ hk => hk) trivial (kW _ _) (Nat.le_refl _) (by simp) ?_; (case hd => rfl); (case hg => rfl); (case hr => first | (go_simp; done) | (go_simp; rfl)); (case hp => exact (Reps.one (show Kd.M (Kd.int .i64) _ _ _ 1 [.int .i64 1] from rfl) (Reps.none _ _))); intro v307 w3 ho4 hb hg_ hnew_; clear hg_ hnew_; (first | rw [← Ny306.out] at ho4 | (simp only [Int.reduceToNat] at ho4; rw [← Ny306.out] at ho4)); have n0_ := zA (kI ho4 (kP (zQ HB.out))); have n1_ := zA (kQ (zQ HB.out) hb); clear HB; have HO308 := n0_; have HB := n1_; clear n0_ n1_; clear hb ho4)); try go_wp2_with (first | ((with_reducible refine kS (N := 12) rfl ?_); refine Kd.R_lit (Kd.int .i64) _ 2 ?hg (N := 12) ?hd (xs := ([1] : List Int)) (inner := [.int .i64 1]) (ok := fun _ => True) (okp := fun _ => True) ?hr ?hp (fun _ hk => hk) trivial (kW _ _) (Nat.le_refl _) (by simp) ?_; (case hd => rfl); (case hg => rfl); (case hr => first | (go_simp; done) | (go_simp; rfl)); (case hp => exact (Reps.one (show Kd.M (Kd.int .i64) _ _ _ 1 [.int .i64 1] from rfl) (Reps.none _ _))); intro v307 w3 ho4 hb hg_ hnew_; clear hg_ hnew_; (first | rw [← Ny306.out] at ho4 | (simp only [Int.reduceToNat] at ho4; rw [← Ny306.out] at ho4)); have HO308 := zA (kI ho4 (kP (zQ HB.out))); replace HB := zA (kQ (zQ HB.out) hb); clear hb ho4)))
 go_loopg [6, 7] k (fun kq v6 v7 w' => ∃ (x6_1 : List Int) (x7_1 : Int), v7 = .int .i64 x7_1 ∧ Aside0 (impl_inverse.l0 kq l0 a1 x6_1 x7_1 = some (r1, r2)) ∧ Aside0 (kq ≤ k) ∧ Aside0 (Kd.R (Kd.int .i64) 2 w' w.heap.size (fun _ => True) v6 x6_1) ∧ Aside0 (Below w.heap.size w w'))
 case atStart => exact ⟨(y306), (1), zs, H', ⟨Nat.le_refl _⟩, ⟨zP HO308.out⟩, ⟨zQ HB.out⟩⟩
 case round =>
  clear H'
  try clear c4
  obtain ⟨x6_1, x7_1, rfl, HA, HK1, HO_6, HB⟩ := hrel
  cases gk with
  | zero => exact absurd HA.out (by simp [impl_inverse.l0])
  | succ k1 =>
   have H := HA.out
   clear HA
   simp only [impl_inverse.l0] at H
   by_cases c5 : x7_1 ≤ a1
   ·rw [if_pos c5] at H
    have c5b0 : decide (x7_1 ≤ a1) = true := decide_eq_true c5
    clear c5
    have HC6 := zA H
    clear H
    go_upto_block 2 with (fail)
    repeat (go_quiet (fail); go_upto_block 2 with (fail))
    go_cut [8, 9] (fun v8 v9 wc => ∃ (kq : Nat) (x8_5 : Int) (x9_5 : Int), v8 = .int .i64 x8_5 ∧ v9 = .int .i64 x9_5 ∧ Aside0 (impl_inverse.j2 kq l0 a1 x6_1 x7_1 x8_5 x9_5 = some (r1, r2)) ∧ Aside0 (kq ≤ k1) ∧ Aside0 (Kd.R (Kd.int .i64) 2 wc w.heap.size (fun _ => True) u6 x6_1) ∧ Aside0 (Below w.heap.size w wc))
    case first =>
     have H := HC6.out
     clear HC6
     have H' := zA H
     clear H
     go_wp2
     repeat (go_quiet (fail); try go_wp2)
     go_loopg [8, 9, 10] k1 (fun kq v8 v9 v10 w' => ∃ (x8_2 : Int) (x9_2 : Int) (x10_2 : Int), v8 = .int .i64 x8_2 ∧ v9 = .int .i64 x9_2 ∧ v10 = .int .i64 x10_2 ∧ Aside0 (impl_inverse.l1 kq l0 a1 x6_1 x7_1 x8_2 x9_2 x10_2 = some (r1, r2)) ∧ Aside0 (kq ≤ k1) ∧ Aside0 (Kd.R (Kd.int .i64) 2 w' w.heap.size (fun _ => True) u6 x6_1) ∧ Aside0 (Below w.heap.size w w'))
     case atStart => exact ⟨(0), (0), (1), zs, zs, zs, H', ⟨Nat.le_refl _⟩, ⟨zP HO_6.out⟩, ⟨zQ HB.out⟩⟩
     case round =>
      clear H'
      try clear c4
      try clear c5
      obtain ⟨x8_2, x9_2, x10_2, rfl, rfl, rfl, HA, HK2, HO_6, HB⟩ := hrel
      cases gk with
      | zero => exact absurd HA.out (by simp [impl_inverse.l1])
      | succ k2 =>
       have H := HA.out
       clear HA
       simp only [impl_inverse.l1] at H
       by_cases c7 : x10_2 ≤ x7_1
       ·rw [if_pos c7] at H
        have c7b0 : decide (x10_2 ≤ x7_1) = true := decide_eq_true c7
        clear c7
        (first | rw [c7b0] | (simp only [i64_w, i32_w]; rw [c7b0]) | skip)
        obtain ⟨t309, A8, H⟩ := zb H
        try dsimp only at H
        by_cases c9 : x10_2 < t309
        ·rw [if_pos c9] at H
         have c9b0 : decide (x10_2 < t309) = true := decide_eq_true c9
         clear c9
         by_cases c10 : 0 ≤ x10_2
         ·rw [if_pos c10] at H
          have c10b0 : decide (0 ≤ x10_2) = true := decide_eq_true c10
          clear c10
          by_cases c11 : x10_2 < (l0.length : Int)
          ·rw [if_pos c11] at H
           have c11b0 : decide (x10_2 < (l0.length : Int)) = true := decide_eq_true c11
           clear c11
           obtain ⟨ji12, hji12⟩ : ∃ j_ : Int, (wrap64 (x7_1 - x10_2)) = j_ := ⟨_, rfl⟩
           replace H : (if 0 ≤ (ji12) then (if (ji12) < (x6_1.length : Int) then (impl_inverse.l1 k2 l0 a1 x6_1 x7_1 (wrap64 (x8_2 - (wrap64 ((rd l0 x10_2) * (wrap64 (Int.tdiv (rd x6_1 (ji12)) 1000000)))))) (wrap64 (x9_2 - (wrap64 ((rd l0 x10_2) * (Int.tmod (rd x6_1 (ji12)) 1000000))))) (wrap64 (x10_2 + 1))) else (none)) else (none)) = some (r1, r2) := by first | (rw [hji12] at H; exact H) | (simp only [hji12] at H ⊢; exact H)
           (try rw [hji12] at A8)
           have hji12w : (IntKind.i64.wrap (x7_1 - x10_2)) = ji12 := (i64_w _).trans hji12
           by_cases c13 : 0 ≤ (ji12)
           ·rw [if_pos c13] at H
            have c13b0 : decide (0 ≤ (ji12)) = true := decide_eq_true c13
            clear c13
            by_cases c14 : (ji12) < (x6_1.length : Int)
            ·rw [if_pos c14] at H
             have c14b0 : decide ((ji12) < (x6_1.length : Int)) = true := decide_eq_true c14
             clear c14
             have H' := zA H
             clear H
             go_wp2_with (first | (go_at_call 51; (with_reducible refine (impl_length_int64.calls _ _ l0 t309 _ ?side1 ?side2 A8.out).mono ?_); (case side1 => exact zS (kO HR0.out HB.out)); (case side2 => exact HC0.out); rintro e w' ⟨rfl, ⟨nd, rfl⟩⟩; (try exact zw); have p310 : 0 ≤ (x10_2 : Int) := zd; have q310 : x10_2 < (l0.length : Int) := zd; obtain ⟨ad310, e310, hx310_0⟩ := Kd.at_int HR0.out x10_2 p310 q310; cases e310; replace hx310_0 := (HB.out.cell (jG w _ hx310_0)).trans hx310_0; replace p310 := eq_true p310; replace q310 := eq_true q310; obtain ⟨Ao15, co15, eo15⟩ := kM HO_6.out; subst eo15; have p311 : 0 ≤ ((ji12) : Int) := zd; have q311 : (ji12) < (x6_1.length : Int) := zd; obtain ⟨ad311, e311, hx311_0⟩ := Kd.at_int (kB HO_6.out).2.2 (ji12) p311 q311; cases e311; replace p311 := eq_true p311; replace q311 := eq_true q311; have p312 : 0 ≤ (x10_2 : Int) := zd; have q312 : x10_2 < (l0.length : Int) := zd; obtain ⟨ad312, e312, hx312_0⟩ := Kd.at_int HR0.out x10_2 p312 q312; obtain rfl : ad310 = ad312 := (by injection e312); replace hx312_0 := (HB.out.cell (jG w _ hx312_0)).trans hx312_0; replace p312 := eq_true p312; replace q312 := eq_true q312; have p313 : 0 ≤ ((ji12) : Int) := zd; have q313 : (ji12) < (x6_1.length : Int) := zd; obtain ⟨ad313, e313, hx313_0⟩ := Kd.at_int (kB HO_6.out).2.2 (ji12) p313 q313; obtain rfl : ad311 = ad313 := (by injection e313); replace p313 := eq_true p313; replace q313 := eq_true q313))
             repeat (go_quiet (first | (go_at_call 51; (with_reducible refine (impl_length_int64.calls _ _ l0 t309 _ ?side1 ?side2 A8.out).mono ?_); (case side1 => exact zS (kO HR0.out HB.out)); (case side2 => exact HC0.out); rintro e w' ⟨rfl, ⟨nd, rfl⟩⟩; (try exact zw); have p310 : 0 ≤ (x10_2 : Int) := zd; have q310 : x10_2 < (l0.length : Int) := zd; obtain ⟨ad310, e310, hx310_0⟩ := Kd.at_int HR0.out x10_2 p310 q310; cases e310; replace hx310_0 := (HB.out.cell (jG w _ hx310_0)).trans hx310_0; replace p310 := eq_true p310; replace q310 := eq_true q310; obtain ⟨Ao15, co15, eo15⟩ := kM HO_6.out; subst eo15; have p311 : 0 ≤ ((ji12) : Int) := zd; have q311 : (ji12) < (x6_1.length : Int) := zd; obtain ⟨ad311, e311, hx311_0⟩ := Kd.at_int (kB HO_6.out).2.2 (ji12) p311 q311; cases e311; replace p311 := eq_true p311; replace q311 := eq_true q311; have p312 : 0 ≤ (x10_2 : Int) := zd; have q312 : x10_2 < (l0.length : Int) := zd; obtain ⟨ad312, e312, hx312_0⟩ := Kd.at_int HR0.out x10_2 p312 q312; obtain rfl : ad310 = ad312 := (by injection e312); replace hx312_0 := (HB.out.cell (jG w _ hx312_0)).trans hx312_0; replace p312 := eq_true p312; replace q312 := eq_true q312; have p313 : 0 ≤ ((ji12) : Int) := zd; have q313 : (ji12) < (x6_1.length : Int) := zd; obtain ⟨ad313, e313, hx313_0⟩ := Kd.at_int (kB HO_6.out).2.2 (ji12) p313 q313; obtain rfl : ad311 = ad313 := (by injection e313); replace p313 := eq_true p313; replace q313 := eq_true q313)); try go_wp2_with (first | (go_at_call 51; (with_reducible refine (impl_length_int64.calls _ _ l0 t309 _ ?side1 ?side2 A8.out).mono ?_); (case side1 => exact zS (kO HR0.out HB.out)); (case side2 => exact HC0.out); rintro e w' ⟨rfl, ⟨nd, rfl⟩⟩; (try exact zw); have p310 : 0 ≤ (x10_2 : Int) := zd; have q310 : x10_2 < (l0.length : Int) := zd; obtain ⟨ad310, e310, hx310_0⟩ := Kd.at_int HR0.out x10_2 p310 q310; cases e310; replace hx310_0 := (HB.out.cell (jG w _ hx310_0)).trans hx310_0; replace p310 := eq_true p310; replace q310 := eq_true q310; obtain ⟨Ao15, co15, eo15⟩ := kM HO_6.out; subst eo15; have p311 : 0 ≤ ((ji12) : Int) := zd; have q311 : (ji12) < (x6_1.length : Int) := zd; obtain ⟨ad311, e311, hx311_0⟩ := Kd.at_int (kB HO_6.out).2.2 (ji12) p311 q311; cases e311; replace p311 := eq_true p311; replace q311 := eq_true q311; have p312 : 0 ≤ (x10_2 : Int) := zd; have q312 : x10_2 < (l0.length : Int) := zd; obtain ⟨ad312, e312, hx312_0⟩ := Kd.at_int HR0.out x10_2 p312 q312; obtain rfl : ad310 = ad312 := (by injection e312); replace hx312_0 := (HB.out.cell (jG w _ hx312_0)).trans hx312_0; replace p312 := eq_true p312; replace q312 := eq_true q312; have p313 : 0 ≤ ((ji12) : Int) := zd; have q313 : (ji12) < (x6_1.length : Int) := zd; obtain ⟨ad313, e313, hx313_0⟩ := Kd.at_int (kB HO_6.out).2.2 (ji12) p313 q313; obtain rfl : ad311 = ad313 := (by injection e313); replace p313 := eq_true p313; replace q313 := eq_true q313)))
             go_roundg k2
             case measure => have := HK1.out; have := HK2.out; omega
             case rel => exact ⟨(wrap64 (x8_2 - (wrap64 ((rd l0 x10_2) * (wrap64 (Int.tdiv (rd x6_1 (ji12)) 1000000)))))), (wrap64 (x9_2 - (wrap64 ((rd l0 x10_2) * (Int.tmod (rd x6_1 (ji12)) 1000000))))), (wrap64 (x10_2 + 1)), (by first | rfl | (simp; done) | (simp only [← hji12] <;> (first | rfl | simp)) | (simp [*]; done)), (by first | rfl | (simp; done) | (simp only [← hji12] <;> (first | rfl | simp)) | (simp [*]; done)), zs, H', ⟨by have := HK1.out; have := HK2.out; omega⟩, ⟨zP HO_6.out⟩, ⟨zQ HB.out⟩⟩
            rw [if_neg c14] at H
            exact absurd H (by simp)
           rw [if_neg c13] at H
           exact absurd H (by simp)
          rw [if_neg c11] at H
          exact absurd H (by simp)
         rw [if_neg c10] at H
         exact absurd H (by simp)
        rw [if_neg c9] at H
        have c9b0 : decide (x10_2 < t309) = false := decide_eq_false c9
        clear c9
        have H' := zA H
        clear H
        go_wp2_with (first | (go_at_call 51; (with_reducible refine (impl_length_int64.calls _ _ l0 t309 _ ?side1 ?side2 A8.out).mono ?_); (case side1 => exact zS (kO HR0.out HB.out)); (case side2 => exact HC0.out); rintro e w' ⟨rfl, ⟨nd, rfl⟩⟩; (try exact zw)))
        repeat (go_quiet (first | (go_at_call 51; (with_reducible refine (impl_length_int64.calls _ _ l0 t309 _ ?side1 ?side2 A8.out).mono ?_); (case side1 => exact zS (kO HR0.out HB.out)); (case side2 => exact HC0.out); rintro e w' ⟨rfl, ⟨nd, rfl⟩⟩; (try exact zw))); try go_wp2_with (first | (go_at_call 51; (with_reducible refine (impl_length_int64.calls _ _ l0 t309 _ ?side1 ?side2 A8.out).mono ?_); (case side1 => exact zS (kO HR0.out HB.out)); (case side2 => exact HC0.out); rintro e w' ⟨rfl, ⟨nd, rfl⟩⟩; (try exact zw))))
        go_meet
        case rel => exact ⟨_, (x8_2), (x9_2), zs, zs, H', ⟨by have := HK1.out; have := HK2.out; first | omega | exact Nat.le_refl _⟩, ⟨zP HO_6.out⟩, ⟨zQ HB.out⟩⟩
       rw [if_neg c7] at H
       have c7b0 : decide (x10_2 ≤ x7_1) = false := decide_eq_false c7
       clear c7
       (first | rw [c7b0] | (simp only [i64_w, i32_w]; rw [c7b0]) | skip)
       have H' := zA H
       clear H
       go_wp2
       repeat (go_quiet (fail); try go_wp2)
       go_meet
       case rel => exact ⟨_, (x8_2), (x9_2), zs, zs, H', ⟨by have := HK1.out; have := HK2.out; first | omega | exact Nat.le_refl _⟩, ⟨zP HO_6.out⟩, ⟨zQ HB.out⟩⟩
    case rest =>
     clear HC6
     try clear c1
     try clear hx3
     try clear c4
     try clear c5
     try clear c7
     try clear c9
     try clear c10
     try clear c11
     try clear c13
     try clear c14
     try clear hx310_0
     try clear hx311_0
     try clear hx312_0
     try clear hx313_0
     obtain ⟨kq, x8_5, x9_5, rfl, rfl, HA, HJ5, HO_6, HB⟩ := hcut
     cases kq with
     | zero => exact absurd HA.out (by simp [impl_inverse.j2])
     | succ kj5 =>
      have H := HA.out
      clear HA
      simp only [impl_inverse.j2] at H
      have HC16 := zA H
      clear H
      go_upto_region 13 with (fail)
      repeat (go_quiet (fail); go_upto_region 13 with (fail))
      go_cut [68] (fun v68 wc => ∃ (kq : Nat) (x68_15 : Bool), v68 = .bool x68_15 ∧ Aside0 (impl_inverse.j3 kq l0 a1 x6_1 x7_1 (wrap64 (x8_5 + (wrap64 (Int.tdiv x9_5 1000000)))) (Int.tmod x9_5 1000000) x68_15 = some (r1, r2)) ∧ Aside0 (kq ≤ kj5) ∧ Aside0 (Kd.R (Kd.int .i64) 2 wc w.heap.size (fun _ => True) u6 x6_1) ∧ Aside0 (Below w.heap.size w wc))
      case first =>
       have H := HC16.out
       clear HC16
       by_cases c17 : (wrap64 (x8_5 + (wrap64 (Int.tdiv x9_5 1000000)))) > 2000000000
       ·rw [if_pos c17] at H
        have c17b0 : decide (2000000000 < (wrap64 (x8_5 + (wrap64 (Int.tdiv x9_5 1000000))))) = true := decide_eq_true c17
        clear c17
        (first | rw [c17b0] | (simp only [i64_w, i32_w]; rw [c17b0]) | skip)
        have H' := zA H
        clear H
        go_wp2
        repeat (go_quiet (fail); try go_wp2)
        go_meet
        case rel => exact ⟨_, (true), zs, H', ⟨by have := HK1.out; have := HJ5.out; first | omega | exact Nat.le_refl _⟩, ⟨zP HO_6.out⟩, ⟨zQ HB.out⟩⟩
       rw [if_neg c17] at H
       have c17b0 : decide (2000000000 < (wrap64 (x8_5 + (wrap64 (Int.tdiv x9_5 1000000))))) = false := decide_eq_false c17
       clear c17
       (first | rw [c17b0] | (simp only [i64_w, i32_w]; rw [c17b0]) | skip)
       have H' := zA H
       clear H
       go_wp2
       repeat (go_quiet (fail); try go_wp2)
       go_meet
       case rel => exact ⟨_, (decide ((wrap64 (x8_5 + (wrap64 (Int.tdiv x9_5 1000000)))) < (-2000000000))), zs, H', ⟨by have := HK1.out; have := HJ5.out; first | omega | exact Nat.le_refl _⟩, ⟨zP HO_6.out⟩, ⟨zQ HB.out⟩⟩
      case rest =>
       clear HC16
       try clear c1
       try clear hx3
       try clear c4
       try clear c5
       try clear c7
       try clear c9
       try clear c10
       try clear c11
       try clear c13
       try clear c14
       try clear c17
       try clear hx310_0
       try clear hx311_0
       try clear hx312_0
       try clear hx313_0
       obtain ⟨kq, x68_15, rfl, HA, HJ15, HO_6, HB⟩ := hcut
       cases kq with
       | zero => exact absurd HA.out (by simp [impl_inverse.j3])
       | succ kj15 =>
        have H := HA.out
        clear HA
        simp only [impl_inverse.j3] at H
        by_cases c18 : x68_15 = true
        ·subst c18
         rw [if_pos rfl] at H
         simp only [Option.some.injEq, Prod.mk.injEq] at H
         obtain ⟨rfl, rfl⟩ := H
         go_wp2
         repeat (go_quiet (fail); try go_wp2)
         go_ret2
         exact ⟨_, zr, zn, zQ HB.out⟩
        replace c18 := Bool.eq_false_iff.mpr c18
        subst c18
        rw [if_neg (show ¬ (false = true) by decide)] at H
        obtain ⟨t314, A19, H⟩ := zb H
        try dsimp only at H
        by_cases c20 : t314 = true
        ·subst c20
         rw [if_pos rfl] at H
         by_cases c21 : x6_1.length < 17592186044416
         ·rw [if_pos c21] at H
          have LMc21 := zA c21
          clear c21
          obtain ⟨y315, hy315⟩ : ∃ y_ : List Int, y_ = (x6_1 ++ [wrap64 ((wrap64 ((wrap64 (x8_5 + (wrap64 (Int.tdiv x9_5 1000000)))) * 1000000)) + (Int.tmod x9_5 1000000))]) := ⟨_, rfl⟩
          replace H : (impl_inverse.l0 kj15 l0 a1 y315 (wrap64 (x7_1 + 1))) = some (r1, r2) := zy hy315 H
          have Ny315 := zA hy315
          clear hy315
          have H' := zA H
          clear H
          go_wp2_with (first | (go_at_call 39; (with_reducible refine (impl_inRange.calls (wrap64 ((wrap64 ((wrap64 (x8_5 + (wrap64 (Int.tdiv x9_5 1000000)))) * 1000000)) + (Int.tmod x9_5 1000000))) (-1000000000000000) 1000000000000000 true _ A19.out).mono ?_); rintro e w' ⟨rfl, ⟨nd, rfl⟩⟩; (try exact zw)) | ((with_reducible refine gate_builtin (b := .append) (xs := #[.tmp 76, .tmp 78]) rfl ?_); at_builtin; refine Kd.R_append (Kd.int .i64) (w0 := w) w.heap.size rfl (.tmp 76) (.tmp 78) 22 2 (.int .i64 0) 8 rfl Tryd.underlying22 info2 rfl (by decide) (by omega) u6 x6_1 (wrap64 ((wrap64 ((wrap64 (x8_5 + (wrap64 (Int.tdiv x9_5 1000000)))) * 1000000)) + (Int.tmod x9_5 1000000))) [.int .i64 (wrap64 ((wrap64 ((wrap64 (x8_5 + (wrap64 (Int.tdiv x9_5 1000000)))) * 1000000)) + (Int.tmod x9_5 1000000)))] (fun _ => True) (fun _ => False) rfl rfl ?aP (fun _ hk => hk.elim) ?aF ?aO ?aB ?aS ?aL ?_; (case aP => exact rfl); (case aB => exact (zQ HB.out)); (case aF => exact (fun _ _ => trivial)); (case aO => exact (zP HO_6.out)); (case aS => exact (kP (zQ HB.out))); (case aL => have := LMc21.out; omega); intro v316 w22 ho hb hg hat; rw [← Ny315.out] at ho; replace HB := zA (hb); have HO317 := zA (ho); clear HO_6; clear ho hb hg hat))
          repeat (go_quiet (first | (go_at_call 39; (with_reducible refine (impl_inRange.calls (wrap64 ((wrap64 ((wrap64 (x8_5 + (wrap64 (Int.tdiv x9_5 1000000)))) * 1000000)) + (Int.tmod x9_5 1000000))) (-1000000000000000) 1000000000000000 true _ A19.out).mono ?_); rintro e w' ⟨rfl, ⟨nd, rfl⟩⟩; (try exact zw)) | ((with_reducible refine gate_builtin (b := .append) (xs := #[.tmp 76, .tmp 78]) rfl ?_); at_builtin; refine Kd.R_append (Kd.int .i64) (w0 := w) w.heap.size rfl (.tmp 76) (.tmp 78) 22 2 (.int .i64 0) 8 rfl Tryd.underlying22 info2 rfl (by decide) (by omega) u6 x6_1 (wrap64 ((wrap64 ((wrap64 (x8_5 + (wrap64 (Int.tdiv x9_5 1000000)))) * 1000000)) + (Int.tmod x9_5 1000000))) [.int .i64 (wrap64 ((wrap64 ((wrap64 (x8_5 + (wrap64 (Int.tdiv x9_5 1000000)))) * 1000000)) + (Int.tmod x9_5 1000000)))] (fun _ => True) (fun _ => False) rfl rfl ?aP (fun _ hk => hk.elim) ?aF ?aO ?aB ?aS ?aL ?_; (case aP => exact rfl); (case aB => exact (zQ HB.out)); (case aF => exact (fun _ _ => trivial)); (case aO => exact (zP HO_6.out)); (case aS => exact (kP (zQ HB.out))); (case aL => have := LMc21.out; omega); intro v316 w22 ho hb hg hat; rw [← Ny315.out] at ho; have n0_ := zA (hb); have n1_ := zA (ho); clear HB; clear HO_6; have HB := n0_; have HO317 := n1_; clear n0_ n1_; clear ho hb hg hat)); try go_wp2_with (first | (go_at_call 39; (with_reducible refine (impl_inRange.calls (wrap64 ((wrap64 ((wrap64 (x8_5 + (wrap64 (Int.tdiv x9_5 1000000)))) * 1000000)) + (Int.tmod x9_5 1000000))) (-1000000000000000) 1000000000000000 true _ A19.out).mono ?_); rintro e w' ⟨rfl, ⟨nd, rfl⟩⟩; (try exact zw)) | ((with_reducible refine gate_builtin (b := .append) (xs := #[.tmp 76, .tmp 78]) rfl ?_); at_builtin; refine Kd.R_append (Kd.int .i64) (w0 := w) w.heap.size rfl (.tmp 76) (.tmp 78) 22 2 (.int .i64 0) 8 rfl Tryd.underlying22 info2 rfl (by decide) (by omega) u6 x6_1 (wrap64 ((wrap64 ((wrap64 (x8_5 + (wrap64 (Int.tdiv x9_5 1000000)))) * 1000000)) + (Int.tmod x9_5 1000000))) [.int .i64 (wrap64 ((wrap64 ((wrap64 (x8_5 + (wrap64 (Int.tdiv x9_5 1000000)))) * 1000000)) + (Int.tmod x9_5 1000000)))] (fun _ => True) (fun _ => False) rfl rfl ?aP (fun _ hk => hk.elim) ?aF ?aO ?aB ?aS ?aL ?_; (case aP => exact rfl); (case aB => exact (zQ HB.out)); (case aF => exact (fun _ _ => trivial)); (case aO => exact (zP HO_6.out)); (case aS => exact (kP (zQ HB.out))); (case aL => have := LMc21.out; omega); intro v316 w22 ho hb hg hat; rw [← Ny315.out] at ho; replace HB := zA (hb); have HO317 := zA (ho); clear HO_6; clear ho hb hg hat)))
          go_roundg kj15
          case measure => have := HK1.out; have := HJ5.out; have := HJ15.out; omega
          case rel => exact ⟨(y315), (wrap64 (x7_1 + 1)), zs, H', ⟨by have := HK1.out; have := HJ5.out; have := HJ15.out; omega⟩, ⟨zP HO317.out⟩, ⟨zQ HB.out⟩⟩
         rw [if_neg c21] at H
         exact absurd H (by simp)
        replace c20 := Bool.eq_false_iff.mpr c20
        subst c20
        rw [if_neg (show ¬ (false = true) by decide)] at H
        simp only [Option.some.injEq, Prod.mk.injEq] at H
        obtain ⟨rfl, rfl⟩ := H
        go_wp2_with (first | (go_at_call 39; (with_reducible refine (impl_inRange.calls (wrap64 ((wrap64 ((wrap64 (x8_5 + (wrap64 (Int.tdiv x9_5 1000000)))) * 1000000)) + (Int.tmod x9_5 1000000))) (-1000000000000000) 1000000000000000 false _ A19.out).mono ?_); rintro e w' ⟨rfl, ⟨nd, rfl⟩⟩; (try exact zw)))
        repeat (go_quiet (first | (go_at_call 39; (with_reducible refine (impl_inRange.calls (wrap64 ((wrap64 ((wrap64 (x8_5 + (wrap64 (Int.tdiv x9_5 1000000)))) * 1000000)) + (Int.tmod x9_5 1000000))) (-1000000000000000) 1000000000000000 false _ A19.out).mono ?_); rintro e w' ⟨rfl, ⟨nd, rfl⟩⟩; (try exact zw))); try go_wp2_with (first | (go_at_call 39; (with_reducible refine (impl_inRange.calls (wrap64 ((wrap64 ((wrap64 (x8_5 + (wrap64 (Int.tdiv x9_5 1000000)))) * 1000000)) + (Int.tmod x9_5 1000000))) (-1000000000000000) 1000000000000000 false _ A19.out).mono ?_); rintro e w' ⟨rfl, ⟨nd, rfl⟩⟩; (try exact zw))))
        go_ret2
        exact ⟨_, zr, zn, zQ HB.out⟩
   rw [if_neg c5] at H
   have c5b0 : decide (x7_1 ≤ a1) = false := decide_eq_false c5
   clear c5
   simp only [Option.some.injEq, Prod.mk.injEq] at H
   obtain ⟨rfl, rfl⟩ := H
   go_wp2
   repeat (go_quiet (fail); try go_wp2)
   go_ret2
   exact ⟨_, zr, zP HO_6.out, zQ HB.out⟩

-- NOT PRINTED: function 77 (impl_family_add)

-- NOT PRINTED: function 70 (impl_growCliques)

/-! ### impl_mutual: function 71 -/
def impl_mutual.l0 : Nat → List Int → List Int → Int → Int → Option (List Int)
 | 0, _, _, _, _ => none
 | k + 1, x0, x3, x8, x9 => if x9 < x8 then (if 0 ≤ x9 then (if x9 < (x3.length : Int) then (if x9 < (x0.length : Int) then ((impl_one.f x9).bind fun t323 => (impl_mutual.l0 k x0 (x3.set (x9 : Int).toNat (Go.bits .and .i64 (rd x3 x9) (Go.bits .andNot .i64 (rd x0 x9) t323))) x8 (wrap64 (x9 + 1)))) else (none)) else (none)) else (none)) else (some x3)
def impl_mutual.f (k : Nat) (l0 : List Int) : Option (List Int) := (impl_converse.f k l0).bind fun t318 => (impl_mutual.l0 k l0 t318 (t318.length : Int) 0)

def impl_mutual.T5 : Bool × List (List Nat × List Nat) := (true, [([], []), ([], []), ([0, 1], [0, 1]), ([2], [2]), ([], []), ([], []), ([4, 5], [4, 5]), ([6], [6]), ([], []), ([8], [8]), ([7, 9], [7, 9]), ([3, 10], [3, 10]), ([0, 1, 0, 1, 2, 3, 4, 5, 6, 7, 8, 9, 10, 11], [0, 1]), ([12, 11, 9, 0, 1, 2, 3, 4, 5, 6, 7, 8, 9, 10, 11], [11, 12])])
def impl_mutual.B5 : List Nat := [0, 0, 3, 7, 0, 0, 48, 112, 0, 256, 1008, 2047, 4095, 8191]
theorem impl_mutual.tab5 : rtab .any (opsOf Tryd.f71 5) = impl_mutual.T5 := by kernel_rfl
theorem impl_mutual.bits5 : waitsOk impl_mutual.T5.2 impl_mutual.B5 = true := by kernel_rfl
set_option maxHeartbeats 8000000 in
set_option maxRecDepth 100000 in
theorem impl_mutual.calls (k : Nat) (A0 : Option Addr) (c0 : Nat) (l0 : List Int) (r : List Int) (w : World) (hr0 : Kd.C (Kd.int .i64) w A0 l0.length l0) (hc0 : l0.length ≤ c0) (hT : TabW w) (h : impl_mutual.f k l0 = some r) :
  Calls Tryd.prog 71 #[.slice A0 l0.length c0] w fun e w' => ∃ v0_ : Value, e = .returned (v0_) ∧ Kd.R (Kd.int .i64) 2 w' w.heap.size (fun _ => True) v0_ r ∧ Below w.heap.size w w' := by
 have HT := zA hT
 clear hT
 have HR0 := zA hr0
 have HC0 := zA hc0
 clear hr0 hc0
 have HB := zA (kW w.heap.size w)
 have H := h
 unfold impl_mutual.f at H
 clear h
 obtain ⟨t318, A2, H⟩ := zb H
 try dsimp only at H
 have H' := zA H
 clear H
 go_enter Tryd.func71, Tryd.ntmps71
 go_wp2_with (first | (refine zO (some 6) Tryd.func60 #[.slice A0 l0.length c0] ?_; (with_reducible refine (impl_converse.calls k _ _ l0 t318 _ ?side1 ?side2 ?side3 A2.out).mono ?_); (case side1 => exact zS HR0.out); (case side2 => exact HC0.out); (case side3 => exact TabW.below HT.out (zQ HB.out)); rintro e w3 ⟨v319, rfl, ho0, hb⟩; refine ⟨_, rfl, ?_⟩; have HO320 := zA (kI ho0 (kP (zQ HB.out))); replace HB := zA (kQ (zQ HB.out) hb); (try clear hb); (try clear ho0); obtain ⟨Ao4, co4, eo4⟩ := kM HO320.out; subst eo4))
 go_loopg [9] k (fun kq v9 w' => ∃ (x3_1 : List Int) (x9_1 : Int), v9 = .int .i64 x9_1 ∧ Aside0 (impl_mutual.l0 kq l0 x3_1 (t318.length : Int) x9_1 = some r) ∧ Aside0 (kq ≤ k) ∧ Aside0 (Kd.R (Kd.int .i64) 2 w' w.heap.size (fun _ => True) (.slice Ao4 t318.length co4) x3_1) ∧ Aside0 (Below w.heap.size w w'))
 case atStart => exact ⟨(t318), (0), zs, H', ⟨Nat.le_refl _⟩, ⟨zP HO320.out⟩, ⟨zQ HB.out⟩⟩
 case round =>
  clear H'
  obtain ⟨x3_1, x9_1, rfl, HA, HK1, HO_3, HB⟩ := hrel
  have hl3_1 := (kB HO_3.out).1
  rw [hl3_1] at HO_3
  (try simp only [hl3_1])
  cases gk with
  | zero => exact absurd HA.out (by simp [impl_mutual.l0])
  | succ k1 =>
   have H := HA.out
   clear HA
   simp only [impl_mutual.l0] at H
   by_cases c5 : x9_1 < (t318.length : Int)
   ·rw [if_pos c5] at H
    have c5b0 : decide (x9_1 < (t318.length : Int)) = true := decide_eq_true c5
    (try (have c5b0h0_ := c5b0; rw [hl3_1] at c5b0h0_))
    clear c5
    by_cases c6 : 0 ≤ x9_1
    ·rw [if_pos c6] at H
     have c6b0 : decide (0 ≤ x9_1) = true := decide_eq_true c6
     clear c6
     by_cases c7 : x9_1 < (x3_1.length : Int)
     ·rw [if_pos c7] at H
      have c7b0 : decide (x9_1 < (x3_1.length : Int)) = true := decide_eq_true c7
      (try (have c7b0h0_ := c7b0; rw [hl3_1] at c7b0h0_))
      clear c7
      by_cases c8 : x9_1 < (l0.length : Int)
      ·rw [if_pos c8] at H
       have c8b0 : decide (x9_1 < (l0.length : Int)) = true := decide_eq_true c8
       (try (have c8b0h0_ := c8b0; rw [hl3_1] at c8b0h0_))
       clear c8
       obtain ⟨t323, A9, H⟩ := zb H
       try dsimp only at H
       obtain ⟨y324, hy324⟩ : ∃ y_ : List Int, y_ = (x3_1.set (x9_1 : Int).toNat (Go.bits .and .i64 (rd x3_1 x9_1) (Go.bits .andNot .i64 (rd l0 x9_1) t323))) := ⟨_, rfl⟩
       replace H : (impl_mutual.l0 k1 l0 y324 (t318.length : Int) (wrap64 (x9_1 + 1))) = some r := zy hy324 H
       have Ny324 := zA hy324
       clear hy324
       have H' := zA H
       clear H
       try go_wp2
       replace HO_3 := zA (zH HO_3.out)
       replace HB := zA (zD HB.out)
       have p321 : 0 ≤ (x9_1 : Int) := zd
       have q321 : x9_1 < (x3_1.length : Int) := zd
       obtain ⟨ad321, e321, hx321_0⟩ := Kd.at_int (kB HO_3.out).2.2 x9_1 p321 q321
       cases e321
       replace p321 := eq_true p321
       replace q321 := eq_true q321
       have p322 : 0 ≤ (x9_1 : Int) := zd
       have q322 : x9_1 < (l0.length : Int) := zd
       obtain ⟨ad322, e322, hx322_0⟩ := Kd.at_int HR0.out x9_1 p322 q322
       have hw322_0 := hx322_0
       cases e322
       replace hx322_0 := (HB.out.cell (jG w _ hx322_0)).trans hx322_0
       replace p322 := eq_true p322
       replace q322 := eq_true q322
       refine start_ (n := 14) (S := fun w' => w'.cell? (ad321.add (x9_1).toNat) = some (.int .i64 (rd x3_1 x9_1)) ∧ w'.cell? (ad322.add (x9_1).toNat) = some (.int .i64 (rd l0 x9_1))) (ds := [13]) #[false, false, false, false, false, false, false, false, false, false, false, false, false, false] (by kernel_rfl) rfl rfl ⟨hx321_0, (pw_cell_below HB.out hw322_0)⟩ (fun hHeld => ?_); refine with_tabW impl_mutual.tab5 impl_mutual.bits5 (fun HT_ HW_ => ?_)
       generalize wr.drew = w11 at HO_3 HB hx321_0 hx322_0 hHeld ⊢
       refine zp 0 (some 12) #[true, false, false, false, false, false, false, false, false, false, false, false, false, false] HT_.out ?_
       refine zp 1 (some 13) #[true, true, false, false, false, false, false, false, false, false, false, false, false, false] HT_.out ?_
       refine zp 2 (some 14) #[true, true, true, false, false, false, false, false, false, false, false, false, false, false] HT_.out ?_
       refine zp 4 (some 16) #[true, true, true, false, true, false, false, false, false, false, false, false, false, false] HT_.out ?_
       refine zp 5 (some 17) #[true, true, true, false, true, true, false, false, false, false, false, false, false, false] HT_.out ?_
       refine zp 6 (some 18) #[true, true, true, false, true, true, true, false, false, false, false, false, false, false] HT_.out ?_
       refine zp 8 (some 20) #[true, true, true, false, true, true, true, false, true, false, false, false, false, false] HT_.out ?_
       refine zc 3 (some 15) #[true, true, true, true, true, true, true, false, true, false, false, false, false, false] HT_.out HW_.out hHeld ?_
       refine zc 7 (some 19) #[true, true, true, true, true, true, true, true, true, false, false, false, false, false] HT_.out HW_.out hHeld ?_
       refine one_ (i := 9) (N := some 21) #[true, true, true, true, true, true, true, true, true, true, false, false, false, false] rfl rfl (one_of HT_.out (by kernel_rfl)) (by decide) (fun K hK => ?_)
       refine goes_ Tryd.func61 (by kernel_rfl) rfl #[.int .i64 x9_1] (by rfl) rfl rfl zg ?_
       with_reducible refine (impl_one.calls x9_1 t323 _ A9.out).mono ?_
       rintro e w' ⟨rfl, ⟨nd, rfl⟩⟩
       refine ⟨_, rfl, ?_⟩
       have p10 : 0 ≤ (x9_1 : Int) := zd
       have q10 : (x9_1 : Int) < ((x3_1.length : Int) : Int) := zd
       obtain ⟨go10, co10, eo10, gb10, gl10, cl10, HG10⟩ := Kd.R_form HO_3.out (by omega)
       (first | cases eo10 | (injection eo10 with ea_ en_ ec_; (first | subst ea_ | (injection ea_ with ea_; subst ea_)); subst ec_; clear en_))
       have GB10 := zA gb10
       have GG10 := zA HG10
       clear gb10 gl10 HG10
       (first | simp only [add_plain] at hx321_0 | skip)
       obtain ⟨hx10_0, hf10_0⟩ := Kd.R_celln 0 HO_3.out (x9_1 : Int) p10 q10
       replace p10 := eq_true p10
       replace q10 := eq_true q10
       have HP12 := Kd.R_putn HO_3.out (x9_1 : Int) (Go.bits .and .i64 (rd x3_1 x9_1) (Go.bits .andNot .i64 (rd l0 x9_1) t323))
       rw [← Ny324.out] at HP12
       have HQ12 := zA HP12
       clear HP12
       refine hK.out _ _ ⟨hHeld.1, (pw_cell_below HB.out hw322_0)⟩ (fun hHeld => ?_)
       clear hK K
       refine norm_ (a' := ?_) ?_ ?_
       rotate_left
       ·show Act.put _ (some 21) _ = _
        simp only [Act.put, zL, zM, zN, i64_w, i32_w]
        rfl
       refine zp 10 (some 22) #[true, true, true, true, true, true, true, true, true, true, true, false, false, false] HT_.out ?_
       refine zp 11 (some 23) #[true, true, true, true, true, true, true, true, true, true, true, true, false, false] HT_.out ?_
       refine zp 12 (some 24) #[true, true, true, true, true, true, true, true, true, true, true, true, true, false] HT_.out ?_
       refine last_ (i := 13) (N := none) #[true, true, true, true, true, true, true, true, true, true, true, true, true, true] rfl rfl (one_of HT_.out (by kernel_rfl)) (by decide) (fun K hK => ?_)
       refine skip_ (w1 := ?_) (by rfl) rfl ?_ ?_
       rotate_left
       ·go_simp
        rfl
       refine hK.out _ _ ?_
       clear hK K
       refine done_ (done_of HT_.out (by kernel_rfl)) ?_
       try go_wp2
       (try simp only [← hl3_1])
       go_roundg k1
       case measure => have := HK1.out; omega
       case rel => exact ⟨(y324), (wrap64 (x9_1 + 1)), zs, H', ⟨by have := HK1.out; omega⟩, ⟨by (try simp only [hl3_1]); (with_reducible repeat (first | apply zF | apply zG | apply zH)); exact HQ12.out⟩, ⟨zT HB.out GB10.out⟩⟩
      rw [if_neg c8] at H
      exact absurd H (by simp)
     rw [if_neg c7] at H
     exact absurd H (by simp)
    rw [if_neg c6] at H
    exact absurd H (by simp)
   rw [if_neg c5] at H
   have c5b0 : decide (x9_1 < (t318.length : Int)) = false := decide_eq_false c5
   (try (have c5b0h0_ := c5b0; rw [hl3_1] at c5b0h0_))
   clear c5
   obtain rfl := Option.some.inj H
   go_wp2
   go_ret
   exact ⟨_, zr, zP HO_3.out, zQ HB.out⟩

/-! ### cmp_isNaN_int64: function 98 -/
def cmp_isNaN_int64.f (a0 : Int) : Option (Bool) := some (a0 != a0)
set_option maxHeartbeats 8000000 in
set_option maxRecDepth 100000 in
theorem cmp_isNaN_int64.calls (a0 : Int) (r : Bool) (w : World) (h : cmp_isNaN_int64.f a0 = some r) :
  Calls Tryd.prog 98 #[.int .i64 a0] w fun e w' => e = .returned (.bool r) ∧ Drawn0 w w' := by
 have H := h
 unfold cmp_isNaN_int64.f at H
 clear h
 obtain rfl := Option.some.inj H
 go_enter Tryd.func98, Tryd.ntmps98
 go_wp2
 go_ret
 exact ⟨zs, by repeat (first | exact Drawn0.refl _ | apply Drawn0.step)⟩

/-! ### cmp_Less_int64: function 88 -/
def cmp_Less_int64.f (a0 : Int) (a1 : Int) : Option (Bool) := (cmp_isNaN_int64.f a0).bind fun t325 => (if t325 = true then ((cmp_isNaN_int64.f a1).bind fun t326 => (if t326 = true then (some (decide (a0 < a1))) else (some true))) else (some (decide (a0 < a1))))
set_option maxHeartbeats 8000000 in
set_option maxRecDepth 100000 in
theorem cmp_Less_int64.calls (a0 : Int) (a1 : Int) (r : Bool) (w : World) (h : cmp_Less_int64.f a0 a1 = some r) :
  Calls Tryd.prog 88 #[.int .i64 a0, .int .i64 a1] w fun e w' => e = .returned (.bool r) ∧ Drawn0 w w' := by
 have H := h
 unfold cmp_Less_int64.f at H
 clear h
 obtain ⟨t325, A3, H⟩ := zb H
 try dsimp only at H
 by_cases c4 : t325 = true
 ·subst c4
  rw [if_pos rfl] at H
  obtain ⟨t326, A5, H⟩ := zb H
  try dsimp only at H
  by_cases c6 : t326 = true
  ·subst c6
   rw [if_pos rfl] at H
   obtain rfl := Option.some.inj H
   go_enter Tryd.func88, Tryd.ntmps88
   go_wp2_with (first | (refine zO (some 6) Tryd.func98 #[.int .i64 a0] ?_; (with_reducible refine (cmp_isNaN_int64.calls a0 true _ A3.out).mono ?_); rintro e w' ⟨rfl, ⟨nd, rfl⟩⟩; refine ⟨_, rfl, ?_⟩) | (go_at_call 98; (with_reducible refine (cmp_isNaN_int64.calls a1 true _ A5.out).mono ?_); rintro e w' ⟨rfl, ⟨nd, rfl⟩⟩))
   go_ret
   exact ⟨zs, by repeat (first | exact Drawn0.refl _ | apply Drawn0.step)⟩
  replace c6 := Bool.eq_false_iff.mpr c6
  subst c6
  rw [if_neg (show ¬ (false = true) by decide)] at H
  obtain rfl := Option.some.inj H
  go_enter Tryd.func88, Tryd.ntmps88
  go_wp2_with (first | (refine zO (some 6) Tryd.func98 #[.int .i64 a0] ?_; (with_reducible refine (cmp_isNaN_int64.calls a0 true _ A3.out).mono ?_); rintro e w' ⟨rfl, ⟨nd, rfl⟩⟩; refine ⟨_, rfl, ?_⟩) | (go_at_call 98; (with_reducible refine (cmp_isNaN_int64.calls a1 false _ A5.out).mono ?_); rintro e w' ⟨rfl, ⟨nd, rfl⟩⟩))
  go_ret
  exact ⟨zs, by repeat (first | exact Drawn0.refl _ | apply Drawn0.step)⟩
 replace c4 := Bool.eq_false_iff.mpr c4
 subst c4
 rw [if_neg (show ¬ (false = true) by decide)] at H
 obtain rfl := Option.some.inj H
 go_enter Tryd.func88, Tryd.ntmps88
 go_wp2_with (first | (refine zO (some 6) Tryd.func98 #[.int .i64 a0] ?_; (with_reducible refine (cmp_isNaN_int64.calls a0 false _ A3.out).mono ?_); rintro e w' ⟨rfl, ⟨nd, rfl⟩⟩; refine ⟨_, rfl, ?_⟩))
 go_ret
 exact ⟨zs, by repeat (first | exact Drawn0.refl _ | apply Drawn0.step)⟩

/-! ### slices_insertionSortOrdered_int64: function 82 -/
mutual
def slices_insertionSortOrdered_int64.l0 : Nat → List Int → Int → Int → Int → Option (List Int)
 | 0, _, _, _, _ => none
 | k + 1, x0, x1, x2, x6 => if x6 < x2 then (slices_insertionSortOrdered_int64.l1 k x0 x1 x2 x6 x6) else (some x0)
def slices_insertionSortOrdered_int64.l1 : Nat → List Int → Int → Int → Int → Int → Option (List Int)
 | 0, _, _, _, _, _ => none
 | k + 1, x0, x1, x2, x6, x7 => if x7 > x1 then (if 0 ≤ x7 then (if x7 < (x0.length : Int) then (if 0 ≤ (wrap64 (x7 - 1)) then (if (wrap64 (x7 - 1)) < (x0.length : Int) then ((cmp_Less_int64.f (rd x0 x7) (rd x0 (wrap64 (x7 - 1)))).bind fun t329 => (if t329 = true then (slices_insertionSortOrdered_int64.l1 k ((x0.set (x7 : Int).toNat (rd x0 (wrap64 (x7 - 1)))).set ((wrap64 (x7 - 1)) : Int).toNat (rd x0 x7)) x1 x2 x6 (wrap64 (x7 - 1))) else (slices_insertionSortOrdered_int64.l0 k x0 x1 x2 (wrap64 (x6 + 1))))) else (none)) else (none)) else (none)) else (none)) else (slices_insertionSortOrdered_int64.l0 k x0 x1 x2 (wrap64 (x6 + 1)))
end
def slices_insertionSortOrdered_int64.f (k : Nat) (l0 : List Int) (a1 : Int) (a2 : Int) : Option (List Int) := slices_insertionSortOrdered_int64.l0 k l0 a1 a2 (wrap64 (a1 + 1))

def slices_insertionSortOrdered_int64.T4 : Bool × List (List Nat × List Nat) := (true, [([], []), ([], []), ([0, 1], [0, 1]), ([2], [2]), ([3], [3]), ([3], [3]), ([4, 5, 3], [3, 4, 5]), ([6, 3], [3, 6]), ([3], [3]), ([3], [3]), ([9, 3], [3, 9]), ([8, 10, 3], [3, 8, 10]), ([11, 3], [3, 11]), ([7, 12, 3, 3], [3, 7, 12]), ([3, 13], [3, 13])])
def slices_insertionSortOrdered_int64.B4 : List Nat := [0, 0, 3, 7, 15, 15, 63, 127, 15, 15, 527, 1807, 3855, 8191, 16383]
theorem slices_insertionSortOrdered_int64.tab4 : rtab .any (opsOf Tryd.f82 4) = slices_insertionSortOrdered_int64.T4 := by kernel_rfl
theorem slices_insertionSortOrdered_int64.bits4 : waitsOk slices_insertionSortOrdered_int64.T4.2 slices_insertionSortOrdered_int64.B4 = true := by kernel_rfl
def slices_insertionSortOrdered_int64.T6 : Bool × List (List Nat × List Nat) := (true, [([], []), ([], []), ([], []), ([], []), ([3], [3]), ([], []), ([], []), ([6], [6]), ([5, 7], [5, 7]), ([8], [8]), ([], []), ([], []), ([10, 11], [10, 11]), ([12], [12]), ([0, 1, 0, 1, 5, 6, 7, 8, 9, 13], [0, 1]), ([14, 9, 0, 1, 5, 6, 7, 8, 9, 13], [9, 14]), ([2, 4, 0, 1, 2, 3, 4, 5, 6, 7, 8, 9, 10, 11, 12, 13, 14, 15], [2, 4]), ([16, 13, 15, 0, 1, 2, 3, 4, 5, 6, 7, 8, 9, 10, 11, 12, 13, 14, 15], [13, 16])])
def slices_insertionSortOrdered_int64.B6 : List Nat := [0, 0, 0, 0, 8, 0, 0, 64, 224, 480, 0, 0, 3072, 7168, 16355, 32739, 65535, 131071]
theorem slices_insertionSortOrdered_int64.tab6 : rtab .any (opsOf Tryd.f82 6) = slices_insertionSortOrdered_int64.T6 := by kernel_rfl
theorem slices_insertionSortOrdered_int64.bits6 : waitsOk slices_insertionSortOrdered_int64.T6.2 slices_insertionSortOrdered_int64.B6 = true := by kernel_rfl
set_option maxHeartbeats 8000000 in
set_option maxRecDepth 100000 in
theorem slices_insertionSortOrdered_int64.calls (k : Nat) (P0_ : Nat → Prop) (u9000_ : Value) (l0 : List Int) (a1 : Int) (a2 : Int) (r : List Int) (w0 w : World) (hB : Below w0.heap.size w0 w) (ho0 : Kd.R (Kd.int .i64) 2 w w0.heap.size P0_ u9000_ l0) (h : slices_insertionSortOrdered_int64.f k l0 a1 a2 = some r) :
  Calls Tryd.prog 82 #[u9000_, .int .i64 a1, .int .i64 a2] w fun e w' => e = .returned (.tuple #[]) ∧ Kd.R (Kd.int .i64) 2 w' w0.heap.size (fun k_ => (P0_ k_ ∨ w.heap.size ≤ k_)) u9000_ r ∧ Below w0.heap.size w0 w' ∧ Kept w w' (fun k_ => P0_ k_) := by
 have HO0 := zA (show Kd.R (Kd.int .i64) 2 w w0.heap.size (fun k_ => (P0_ k_ ∨ w.heap.size ≤ k_)) u9000_ l0 from kA ho0 (fun k_ hk => (.inl hk)))
 have HK := zA (Kept.refl w (fun k_ => P0_ k_))
 have HW0 := zA hB.size
 have HB := zA hB
 clear hB
 have H := h
 unfold slices_insertionSortOrdered_int64.f at H
 clear h
 have H' := zA H
 clear H
 go_enter Tryd.func82, Tryd.ntmps82
 go_wp2
 go_loopg [6] k (fun kq v6 w' => ∃ (x0_1 : List Int) (x6_1 : Int), v6 = .int .i64 x6_1 ∧ Aside0 (slices_insertionSortOrdered_int64.l0 kq x0_1 a1 a2 x6_1 = some r) ∧ Aside0 (kq ≤ k) ∧ Aside0 (Kd.R (Kd.int .i64) 2 w' w0.heap.size (fun k_ => (P0_ k_ ∨ w.heap.size ≤ k_)) u9000_ x0_1) ∧ Aside0 (Kept w w' (fun k_ => P0_ k_)) ∧ Aside0 (Below w0.heap.size w0 w'))
 case atStart => exact ⟨(l0), (wrap64 (a1 + 1)), zs, H', ⟨Nat.le_refl _⟩, ⟨zP HO0.out⟩, ⟨by repeat (first | (with_reducible first | exact HK.out | apply Kept.alloc | apply Kept.drewN | apply Kept.drew) | exact HK.out)⟩, ⟨zQ HB.out⟩⟩
 case round =>
  clear H'
  obtain ⟨x0_1, x6_1, rfl, HA, HK1, HO_0, HK, HB⟩ := hrel
  cases gk with
  | zero => exact absurd HA.out (by simp [slices_insertionSortOrdered_int64.l0])
  | succ k1 =>
   have H := HA.out
   clear HA
   simp only [slices_insertionSortOrdered_int64.l0] at H
   by_cases c4 : x6_1 < a2
   ·rw [if_pos c4] at H
    have c4b0 : decide (x6_1 < a2) = true := decide_eq_true c4
    clear c4
    have H' := zA H
    clear H
    go_wp2
    go_loopg [7] k1 (fun kq v7 w' => ∃ (x0_2 : List Int) (x7_2 : Int), v7 = .int .i64 x7_2 ∧ Aside0 (slices_insertionSortOrdered_int64.l1 kq x0_2 a1 a2 x6_1 x7_2 = some r) ∧ Aside0 (kq ≤ k1) ∧ Aside0 (Kd.R (Kd.int .i64) 2 w' w0.heap.size (fun k_ => (P0_ k_ ∨ w.heap.size ≤ k_)) u9000_ x0_2) ∧ Aside0 (Kept w w' (fun k_ => P0_ k_)) ∧ Aside0 (Below w0.heap.size w0 w'))
    case atStart => exact ⟨(x0_1), (x6_1), zs, H', ⟨Nat.le_refl _⟩, ⟨zP HO_0.out⟩, ⟨by repeat (first | (with_reducible first | exact HK.out | apply Kept.alloc | apply Kept.drewN | apply Kept.drew) | exact HK.out)⟩, ⟨zQ HB.out⟩⟩
    case round =>
     clear H'
     try clear c4
     obtain ⟨x0_2, x7_2, rfl, HA, HK2, HO_0, HK, HB⟩ := hrel
     cases gk with
     | zero => exact absurd HA.out (by simp [slices_insertionSortOrdered_int64.l1])
     | succ k2 =>
      have H := HA.out
      clear HA
      simp only [slices_insertionSortOrdered_int64.l1] at H
      by_cases c5 : x7_2 > a1
      ·rw [if_pos c5] at H
       have c5b0 : decide (a1 < x7_2) = true := decide_eq_true c5
       clear c5
       by_cases c6 : 0 ≤ x7_2
       ·rw [if_pos c6] at H
        have c6b0 : decide (0 ≤ x7_2) = true := decide_eq_true c6
        clear c6
        by_cases c7 : x7_2 < (x0_2.length : Int)
        ·rw [if_pos c7] at H
         have c7b0 : decide (x7_2 < (x0_2.length : Int)) = true := decide_eq_true c7
         clear c7
         obtain ⟨ji8, hji8⟩ : ∃ j_ : Int, (wrap64 (x7_2 - 1)) = j_ := ⟨_, rfl⟩
         replace H : (if 0 ≤ (ji8) then (if (ji8) < (x0_2.length : Int) then ((cmp_Less_int64.f (rd x0_2 x7_2) (rd x0_2 (ji8))).bind fun t329 => (if t329 = true then (slices_insertionSortOrdered_int64.l1 k2 ((x0_2.set (x7_2 : Int).toNat (rd x0_2 (ji8))).set ((ji8) : Int).toNat (rd x0_2 x7_2)) a1 a2 x6_1 ji8) else (slices_insertionSortOrdered_int64.l0 k2 x0_2 a1 a2 (wrap64 (x6_1 + 1))))) else (none)) else (none)) = some r := by first | (rw [hji8] at H; exact H) | (simp only [hji8] at H ⊢; exact H)
         have hji8w : (IntKind.i64.wrap (x7_2 - 1)) = ji8 := (i64_w _).trans hji8
         by_cases c9 : 0 ≤ (ji8)
         ·rw [if_pos c9] at H
          have c9b0 : decide (0 ≤ (ji8)) = true := decide_eq_true c9
          clear c9
          by_cases c10 : (ji8) < (x0_2.length : Int)
          ·rw [if_pos c10] at H
           have c10b0 : decide ((ji8) < (x0_2.length : Int)) = true := decide_eq_true c10
           clear c10
           obtain ⟨t329, A11, H⟩ := zb H
           try dsimp only at H
           by_cases c12 : t329 = true
           ·subst c12
            rw [if_pos rfl] at H
            obtain ⟨y332, hy332⟩ : ∃ y_ : List Int, y_ = (x0_2.set (x7_2 : Int).toNat (rd x0_2 (ji8))) := ⟨_, rfl⟩
            replace H : (slices_insertionSortOrdered_int64.l1 k2 (y332.set ((ji8) : Int).toNat (rd x0_2 x7_2)) a1 a2 x6_1 ji8) = some r := zy hy332 H
            have Ny332 := zA hy332
            clear hy332
            obtain ⟨y333, hy333⟩ : ∃ y_ : List Int, y_ = (y332.set ((ji8) : Int).toNat (rd x0_2 x7_2)) := ⟨_, rfl⟩
            replace H : (slices_insertionSortOrdered_int64.l1 k2 y333 a1 a2 x6_1 ji8) = some r := zy hy333 H
            have Ny333 := zA hy333
            clear hy333
            have H' := zA H
            clear H
            try go_wp2
            replace HO_0 := zA (zH HO_0.out)
            replace HK := zA (Kept.drew HK.out)
            replace HB := zA (zD HB.out)
            obtain ⟨Ao16, co16, eo16⟩ := kM HO_0.out
            (first | subst eo16 | (injection eo16 with f1_ f2_ f3_; have f4_ := f1_.symm; have f5_ := f3_.symm; clear f1_ f2_ f3_; subst f4_; subst f5_))
            have p327 : 0 ≤ (x7_2 : Int) := zd
            have q327 : x7_2 < (x0_2.length : Int) := zd
            obtain ⟨ad327, e327, hx327_0⟩ := Kd.at_int (kB HO_0.out).2.2 x7_2 p327 q327
            cases e327
            replace p327 := eq_true p327
            replace q327 := eq_true q327
            have p328 : 0 ≤ ((ji8) : Int) := zd
            have q328 : (ji8) < (x0_2.length : Int) := zd
            obtain ⟨ad328, e328, hx328_0⟩ := Kd.at_int (kB HO_0.out).2.2 (ji8) p328 q328
            obtain rfl : ad327 = ad328 := (by injection e328)
            replace p328 := eq_true p328
            replace q328 := eq_true q328
            refine start_ (n := 15) (S := fun w' => w'.cell? (ad327.add (x7_2).toNat) = some (.int .i64 (rd x0_2 x7_2)) ∧ w'.cell? (ad327.add ((ji8)).toNat) = some (.int .i64 (rd x0_2 (ji8)))) (ds := []) #[false, false, false, false, false, false, false, false, false, false, false, false, false, false, false] (by kernel_rfl) rfl rfl ⟨hx327_0, hx328_0⟩ (fun hHeld => ?_); refine with_tabW slices_insertionSortOrdered_int64.tab4 slices_insertionSortOrdered_int64.bits4 (fun HT_ HW_ => ?_)
            generalize wr.drew = w15 at HO_0 HK HB hx327_0 hx328_0 hHeld ⊢
            refine zp 0 (some 16) #[true, false, false, false, false, false, false, false, false, false, false, false, false, false, false] HT_.out ?_
            refine zp 1 (some 17) #[true, true, false, false, false, false, false, false, false, false, false, false, false, false, false] HT_.out ?_
            refine zp 2 (some 18) #[true, true, true, false, false, false, false, false, false, false, false, false, false, false, false] HT_.out ?_
            refine zp 3 (some 19) #[true, true, true, true, false, false, false, false, false, false, false, false, false, false, false] HT_.out ?_
            refine zp 4 (some 20) #[true, true, true, true, true, false, false, false, false, false, false, false, false, false, false] HT_.out ?_
            refine zp 5 (some 21) #[true, true, true, true, true, true, false, false, false, false, false, false, false, false, false] HT_.out ?_
            refine zp 6 (some 22) #[true, true, true, true, true, true, true, false, false, false, false, false, false, false, false] HT_.out ?_
            refine zp 8 (some 24) #[true, true, true, true, true, true, true, false, true, false, false, false, false, false, false] HT_.out ?_
            refine zp 9 (some 25) #[true, true, true, true, true, true, true, false, true, true, false, false, false, false, false] HT_.out ?_
            refine zp 10 (some 26) #[true, true, true, true, true, true, true, false, true, true, true, false, false, false, false] HT_.out ?_
            refine zp 11 (some 27) #[true, true, true, true, true, true, true, false, true, true, true, true, false, false, false] HT_.out ?_
            refine zc 7 (some 23) #[true, true, true, true, true, true, true, true, true, true, true, true, false, false, false] HT_.out HW_.out hHeld ?_
            refine zc 12 (some 28) #[true, true, true, true, true, true, true, true, true, true, true, true, true, false, false] HT_.out HW_.out hHeld ?_
            refine one_ (i := 13) (N := some 29) #[true, true, true, true, true, true, true, true, true, true, true, true, true, true, false] rfl rfl (one_of HT_.out (by kernel_rfl)) (by decide) (fun K hK => ?_)
            refine goes_ Tryd.func88 (by kernel_rfl) rfl #[.int .i64 (rd x0_2 x7_2), .int .i64 (rd x0_2 (ji8))] (by rfl) rfl rfl (by (try simp only [List.map_toArray, List.map_cons, List.map_nil]); first | done | (simp only [hji8]; rfl) | rfl | (simp only [List.length_drop, List.length_take]; rfl)) ?_
            with_reducible refine (cmp_Less_int64.calls (rd x0_2 x7_2) (rd x0_2 (ji8)) true _ A11.out).mono ?_
            rintro e w' ⟨rfl, ⟨nd, rfl⟩⟩
            refine ⟨_, rfl, ?_⟩
            refine hK.out _ _ ⟨hHeld.1, hHeld.2⟩ (fun hHeld => ?_)
            clear hK K
            refine norm_ (a' := ?_) ?_ ?_
            rotate_left
            ·show Act.put _ (some 29) _ = _
             simp only [Act.put, zL, zM, zN, i64_w, i32_w]
             rfl
            refine zp 14 (some 30) #[true, true, true, true, true, true, true, true, true, true, true, true, true, true, true] HT_.out ?_
            refine done_ (done_of HT_.out (by kernel_rfl)) ?_
            try go_wp2
            (try (rw [drewN_self w15]; generalize hq_ : World.drewN w15 _ = w15; have n0_ : Aside0 (Kd.R (Kd.int .i64) 2 w15 w0.heap.size (fun k_ => (P0_ k_ ∨ w.heap.size ≤ k_)) (.slice (some ad327) x0_2.length co16) x0_2) := ⟨by rw [← hq_]; exact (zP HO_0.out)⟩; have n1_ : Aside0 (Kept w w15 (fun k_ => P0_ k_)) := ⟨by rw [← hq_]; exact (by repeat (first | (with_reducible first | exact HK.out | apply Kept.alloc | apply Kept.drewN | apply Kept.drew) | exact HK.out))⟩; have n2_ : Aside0 (Below w0.heap.size w0 w15) := ⟨by rw [← hq_]; exact (zQ HB.out)⟩; clear HO_0 HK HB hq_; have HO_0 := n0_; have HK := n1_; have HB := n2_; clear n0_ n1_ n2_))
            replace HO_0 := zA (zH HO_0.out)
            replace HK := zA (Kept.drew HK.out)
            replace HB := zA (zD HB.out)
            have p330 : 0 ≤ ((ji8) : Int) := zd
            have q330 : (ji8) < (x0_2.length : Int) := zd
            obtain ⟨ad330, e330, hx330_0⟩ := Kd.at_int (kB HO_0.out).2.2 (ji8) p330 q330
            obtain rfl : ad327 = ad330 := (by injection e330)
            replace p330 := eq_true p330
            replace q330 := eq_true q330
            have p331 : 0 ≤ (x7_2 : Int) := zd
            have q331 : x7_2 < (x0_2.length : Int) := zd
            obtain ⟨ad331, e331, hx331_0⟩ := Kd.at_int (kB HO_0.out).2.2 x7_2 p331 q331
            obtain rfl : ad327 = ad331 := (by injection e331)
            replace p331 := eq_true p331
            replace q331 := eq_true q331
            have p13 : 0 ≤ (x7_2 : Int) := zd
            have q13 : (x7_2 : Int) < ((x0_2.length : Int) : Int) := zd
            obtain ⟨go13, co13, eo13, gb13, gl13, cl13, HG13⟩ := Kd.R_form HO_0.out (by omega)
            (first | cases eo13 | (injection eo13 with ea_ en_ ec_; (first | subst ea_ | (injection ea_ with ea_; subst ea_)); subst ec_; clear en_))
            have GB13 := zA gb13
            have GG13 := zA HG13
            clear gb13 gl13 HG13
            have HMgo13 := zA (show (P0_ go13 ∨ w.heap.size ≤ go13) from (HO_0.out.1 _ rfl))
            (first | simp only [add_plain] at hx327_0 | skip)
            (first | simp only [add_plain] at hx328_0 | skip)
            (first | simp only [add_plain] at hx330_0 | skip)
            (first | simp only [add_plain] at hx331_0 | skip)
            obtain ⟨hx13_0, hf13_0⟩ := Kd.R_celln 0 HO_0.out (x7_2 : Int) p13 q13
            replace p13 := eq_true p13
            replace q13 := eq_true q13
            have HP18 := Kd.R_putn HO_0.out (x7_2 : Int) (rd x0_2 (ji8))
            rw [← Ny332.out] at HP18
            have HQ18 := zA HP18
            clear HP18
            have p14 : 0 ≤ ((ji8) : Int) := zd
            have q14 : ((ji8) : Int) < ((x0_2.length : Int) : Int) := zd
            obtain ⟨hx14_0, hf14_0⟩ := Kd.R_celln 0 HQ18.out ((ji8) : Int) p14 q14
            replace p14 := eq_true p14
            replace q14 := eq_true q14
            have HP19 := Kd.R_putn HQ18.out ((ji8) : Int) (rd x0_2 x7_2)
            rw [← Ny333.out] at HP19
            have HQ19 := zA HP19
            clear HP19
            refine start_ (n := 18) (S := fun w' => w'.cell? ⟨go13, ((ji8)).toNat, none⟩ = some (.int .i64 (rd x0_2 (ji8))) ∧ w'.cell? ⟨go13, (x7_2).toNat, none⟩ = some (.int .i64 (rd x0_2 x7_2))) (ds := [15, 17]) #[false, false, false, false, false, false, false, false, false, false, false, false, false, false, false, false, false, false] (by kernel_rfl) rfl rfl ⟨hx330_0, hx331_0⟩ (fun hHeld => ?_); refine with_tabW slices_insertionSortOrdered_int64.tab6 slices_insertionSortOrdered_int64.bits6 (fun HT_ HW_ => ?_)
            generalize w15.drew = w17 at HO_0 HK HB GG13 HQ18 HQ19 hf13_0 hf14_0 hx13_0 hx14_0 hx327_0 hx328_0 hx330_0 hx331_0 hHeld ⊢
            refine zp 0 (some 33) #[true, false, false, false, false, false, false, false, false, false, false, false, false, false, false, false, false, false] HT_.out ?_
            refine zp 1 (some 34) #[true, true, false, false, false, false, false, false, false, false, false, false, false, false, false, false, false, false] HT_.out ?_
            refine zp 2 (some 35) #[true, true, true, false, false, false, false, false, false, false, false, false, false, false, false, false, false, false] HT_.out ?_
            refine zp 3 (some 36) #[true, true, true, true, false, false, false, false, false, false, false, false, false, false, false, false, false, false] HT_.out ?_
            refine zp 4 (some 37) #[true, true, true, true, true, false, false, false, false, false, false, false, false, false, false, false, false, false] HT_.out ?_
            refine zp 5 (some 38) #[true, true, true, true, true, true, false, false, false, false, false, false, false, false, false, false, false, false] HT_.out ?_
            refine zp 6 (some 39) #[true, true, true, true, true, true, true, false, false, false, false, false, false, false, false, false, false, false] HT_.out ?_
            refine zp 7 (some 40) #[true, true, true, true, true, true, true, true, false, false, false, false, false, false, false, false, false, false] HT_.out ?_
            refine zp 8 (some 41) #[true, true, true, true, true, true, true, true, true, false, false, false, false, false, false, false, false, false] HT_.out ?_
            refine zp 10 (some 43) #[true, true, true, true, true, true, true, true, true, false, true, false, false, false, false, false, false, false] HT_.out ?_
            refine zp 11 (some 44) #[true, true, true, true, true, true, true, true, true, false, true, true, false, false, false, false, false, false] HT_.out ?_
            refine zp 12 (some 45) #[true, true, true, true, true, true, true, true, true, false, true, true, true, false, false, false, false, false] HT_.out ?_
            refine zc 9 (some 42) #[true, true, true, true, true, true, true, true, true, true, true, true, true, false, false, false, false, false] HT_.out HW_.out hHeld ?_
            refine zc 13 (some 46) #[true, true, true, true, true, true, true, true, true, true, true, true, true, true, false, false, false, false] HT_.out HW_.out hHeld ?_
            refine zp 14 (some 47) #[true, true, true, true, true, true, true, true, true, true, true, true, true, true, true, false, false, false] HT_.out ?_
            refine last_ (i := 15) (N := none) #[true, true, true, true, true, true, true, true, true, true, true, true, true, true, true, true, false, false] rfl rfl (one_of HT_.out (by kernel_rfl)) (by decide) (fun K hK => ?_)
            refine skip_ (w1 := ?_) (by rfl) rfl ?_ ?_
            rotate_left
            ·go_simp
             rfl
            refine hK.out _ _ ?_
            clear hK K
            refine zp 16 (some 48) #[true, true, true, true, true, true, true, true, true, true, true, true, true, true, true, true, true, false] HT_.out ?_
            refine last_ (i := 17) (N := none) #[true, true, true, true, true, true, true, true, true, true, true, true, true, true, true, true, true, true] rfl rfl (one_of HT_.out (by kernel_rfl)) (by decide) (fun K hK => ?_)
            refine skip_ (w1 := ?_) (by rfl) rfl ?_ ?_
            rotate_left
            ·go_simp
             rfl
            refine hK.out _ _ ?_
            clear hK K
            refine done_ (done_of HT_.out (by kernel_rfl)) ?_
            try go_wp2
            go_roundg k2
            case measure => have := HK1.out; have := HK2.out; omega
            case rel => exact ⟨(y333), (ji8), (by first | rfl | (simp; done) | (simp only [← hji8] <;> (first | rfl | simp)) | (simp [*]; done)), H', ⟨by have := HK1.out; have := HK2.out; omega⟩, ⟨zP HQ19.out⟩, ⟨by repeat (first | (with_reducible first | exact HK.out | apply Kept.alloc | apply Kept.drewN | apply Kept.drew | refine Kept.setCell ?_ HMgo13.out _ | refine Kept.setCell ?_ HMgo13.out _) | exact HK.out)⟩, ⟨zV HB.out GB13.out GB13.out⟩⟩
           replace c12 := Bool.eq_false_iff.mpr c12
           subst c12
           rw [if_neg (show ¬ (false = true) by decide)] at H
           have H' := zA H
           clear H
           try go_wp2
           replace HO_0 := zA (zH HO_0.out)
           replace HK := zA (Kept.drew HK.out)
           replace HB := zA (zD HB.out)
           obtain ⟨Ao21, co21, eo21⟩ := kM HO_0.out
           (first | subst eo21 | (injection eo21 with f1_ f2_ f3_; have f4_ := f1_.symm; have f5_ := f3_.symm; clear f1_ f2_ f3_; subst f4_; subst f5_))
           have p327 : 0 ≤ (x7_2 : Int) := zd
           have q327 : x7_2 < (x0_2.length : Int) := zd
           obtain ⟨ad327, e327, hx327_0⟩ := Kd.at_int (kB HO_0.out).2.2 x7_2 p327 q327
           cases e327
           replace p327 := eq_true p327
           replace q327 := eq_true q327
           have p328 : 0 ≤ ((ji8) : Int) := zd
           have q328 : (ji8) < (x0_2.length : Int) := zd
           obtain ⟨ad328, e328, hx328_0⟩ := Kd.at_int (kB HO_0.out).2.2 (ji8) p328 q328
           obtain rfl : ad327 = ad328 := (by injection e328)
           replace p328 := eq_true p328
           replace q328 := eq_true q328
           refine start_ (n := 15) (S := fun w' => w'.cell? (ad327.add (x7_2).toNat) = some (.int .i64 (rd x0_2 x7_2)) ∧ w'.cell? (ad327.add ((ji8)).toNat) = some (.int .i64 (rd x0_2 (ji8)))) (ds := []) #[false, false, false, false, false, false, false, false, false, false, false, false, false, false, false] (by kernel_rfl) rfl rfl ⟨hx327_0, hx328_0⟩ (fun hHeld => ?_); refine with_tabW slices_insertionSortOrdered_int64.tab4 slices_insertionSortOrdered_int64.bits4 (fun HT_ HW_ => ?_)
           generalize wr.drew = w20 at HO_0 HK HB hx327_0 hx328_0 hHeld ⊢
           refine zp 0 (some 16) #[true, false, false, false, false, false, false, false, false, false, false, false, false, false, false] HT_.out ?_
           refine zp 1 (some 17) #[true, true, false, false, false, false, false, false, false, false, false, false, false, false, false] HT_.out ?_
           refine zp 2 (some 18) #[true, true, true, false, false, false, false, false, false, false, false, false, false, false, false] HT_.out ?_
           refine zp 3 (some 19) #[true, true, true, true, false, false, false, false, false, false, false, false, false, false, false] HT_.out ?_
           refine zp 4 (some 20) #[true, true, true, true, true, false, false, false, false, false, false, false, false, false, false] HT_.out ?_
           refine zp 5 (some 21) #[true, true, true, true, true, true, false, false, false, false, false, false, false, false, false] HT_.out ?_
           refine zp 6 (some 22) #[true, true, true, true, true, true, true, false, false, false, false, false, false, false, false] HT_.out ?_
           refine zp 8 (some 24) #[true, true, true, true, true, true, true, false, true, false, false, false, false, false, false] HT_.out ?_
           refine zp 9 (some 25) #[true, true, true, true, true, true, true, false, true, true, false, false, false, false, false] HT_.out ?_
           refine zp 10 (some 26) #[true, true, true, true, true, true, true, false, true, true, true, false, false, false, false] HT_.out ?_
           refine zp 11 (some 27) #[true, true, true, true, true, true, true, false, true, true, true, true, false, false, false] HT_.out ?_
           refine zc 7 (some 23) #[true, true, true, true, true, true, true, true, true, true, true, true, false, false, false] HT_.out HW_.out hHeld ?_
           refine zc 12 (some 28) #[true, true, true, true, true, true, true, true, true, true, true, true, true, false, false] HT_.out HW_.out hHeld ?_
           refine one_ (i := 13) (N := some 29) #[true, true, true, true, true, true, true, true, true, true, true, true, true, true, false] rfl rfl (one_of HT_.out (by kernel_rfl)) (by decide) (fun K hK => ?_)
           refine goes_ Tryd.func88 (by kernel_rfl) rfl #[.int .i64 (rd x0_2 x7_2), .int .i64 (rd x0_2 (ji8))] (by rfl) rfl rfl (by (try simp only [List.map_toArray, List.map_cons, List.map_nil]); first | done | (simp only [hji8]; rfl) | rfl | (simp only [List.length_drop, List.length_take]; rfl)) ?_
           with_reducible refine (cmp_Less_int64.calls (rd x0_2 x7_2) (rd x0_2 (ji8)) false _ A11.out).mono ?_
           rintro e w' ⟨rfl, ⟨nd, rfl⟩⟩
           refine ⟨_, rfl, ?_⟩
           refine hK.out _ _ ⟨hHeld.1, hHeld.2⟩ (fun hHeld => ?_)
           clear hK K
           refine norm_ (a' := ?_) ?_ ?_
           rotate_left
           ·show Act.put _ (some 29) _ = _
            simp only [Act.put, zL, zM, zN, i64_w, i32_w]
            rfl
           refine zp 14 (some 30) #[true, true, true, true, true, true, true, true, true, true, true, true, true, true, true] HT_.out ?_
           refine done_ (done_of HT_.out (by kernel_rfl)) ?_
           try go_wp2
           go_roundg k2
           case measure => have := HK1.out; have := HK2.out; omega
           case rel => exact ⟨(x0_2), (wrap64 (x6_1 + 1)), zs, H', ⟨by have := HK1.out; have := HK2.out; omega⟩, ⟨zP HO_0.out⟩, ⟨by repeat (first | (with_reducible first | exact HK.out | apply Kept.alloc | apply Kept.drewN | apply Kept.drew) | exact HK.out)⟩, ⟨zQ HB.out⟩⟩
          rw [if_neg c10] at H
          exact absurd H (by simp)
         rw [if_neg c9] at H
         exact absurd H (by simp)
        rw [if_neg c7] at H
        exact absurd H (by simp)
       rw [if_neg c6] at H
       exact absurd H (by simp)
      rw [if_neg c5] at H
      have c5b0 : decide (a1 < x7_2) = false := decide_eq_false c5
      clear c5
      have H' := zA H
      clear H
      try go_wp2
      replace HO_0 := zA (zH HO_0.out)
      replace HK := zA (Kept.drew HK.out)
      replace HB := zA (zD HB.out)
      refine start_ (n := 15) (S := fun w' => True) (ds := []) #[false, false, false, false, false, false, false, false, false, false, false, false, false, false, false] (by kernel_rfl) rfl rfl trivial (fun hHeld => ?_); refine with_tabW slices_insertionSortOrdered_int64.tab4 slices_insertionSortOrdered_int64.bits4 (fun HT_ HW_ => ?_)
      generalize wr.drew = w22 at HO_0 HK HB hHeld ⊢
      refine zp 0 (some 16) #[true, false, false, false, false, false, false, false, false, false, false, false, false, false, false] HT_.out ?_
      refine zp 1 (some 17) #[true, true, false, false, false, false, false, false, false, false, false, false, false, false, false] HT_.out ?_
      refine zp 2 (some 18) #[true, true, true, false, false, false, false, false, false, false, false, false, false, false, false] HT_.out ?_
      refine zp 3 (some 19) #[true, true, true, true, false, false, false, false, false, false, false, false, false, false, false] HT_.out ?_
      refine zu 4 (some 20) #[true, true, true, true, true, false, false, false, false, false, false, false, false, false, false] HT_.out ?_
      refine zu 5 (some 21) #[true, true, true, true, true, true, false, false, false, false, false, false, false, false, false] HT_.out ?_
      refine zu 6 (some 22) #[true, true, true, true, true, true, true, false, false, false, false, false, false, false, false] HT_.out ?_
      refine zu 7 (some 23) #[true, true, true, true, true, true, true, true, false, false, false, false, false, false, false] HT_.out ?_
      refine zu 8 (some 24) #[true, true, true, true, true, true, true, true, true, false, false, false, false, false, false] HT_.out ?_
      refine zu 9 (some 25) #[true, true, true, true, true, true, true, true, true, true, false, false, false, false, false] HT_.out ?_
      refine zu 10 (some 26) #[true, true, true, true, true, true, true, true, true, true, true, false, false, false, false] HT_.out ?_
      refine zu 11 (some 27) #[true, true, true, true, true, true, true, true, true, true, true, true, false, false, false] HT_.out ?_
      refine zu 12 (some 28) #[true, true, true, true, true, true, true, true, true, true, true, true, true, false, false] HT_.out ?_
      refine zu 13 (some 29) #[true, true, true, true, true, true, true, true, true, true, true, true, true, true, false] HT_.out ?_
      refine zp 14 (some 30) #[true, true, true, true, true, true, true, true, true, true, true, true, true, true, true] HT_.out ?_
      refine done_ (done_of HT_.out (by kernel_rfl)) ?_
      try go_wp2
      go_roundg k2
      case measure => have := HK1.out; have := HK2.out; omega
      case rel => exact ⟨(x0_2), (wrap64 (x6_1 + 1)), zs, H', ⟨by have := HK1.out; have := HK2.out; omega⟩, ⟨zP HO_0.out⟩, ⟨by repeat (first | (with_reducible first | exact HK.out | apply Kept.alloc | apply Kept.drewN | apply Kept.drew) | exact HK.out)⟩, ⟨zQ HB.out⟩⟩
   rw [if_neg c4] at H
   have c4b0 : decide (x6_1 < a2) = false := decide_eq_false c4
   clear c4
   obtain rfl := Option.some.inj H
   go_wp2
   first | go_end0 | ((try simp only [Exit.inBlock, Exit.then]); refine bodyPost_ret (results_none rfl _ _ _) rfl ?_)
   exact ⟨zr, zP HO_0.out, zQ HB.out, by repeat (first | (with_reducible first | exact HK.out | apply Kept.alloc | apply Kept.drewN | apply Kept.drew) | exact HK.out)⟩

end Go.Proofs.YtemdfjdmokbcoaaDoor.PAll
