-- Printed by a program of the session (wip/tools/pgen.py) out of the translation. Not trusted: Lean checks it.
import Derived.Test.YtemdfjdmokbcoaaDoorPAllx0
import Derived.Test.YtemdfjdmokbcoaaDoorPAllx2
namespace Go.Proofs.YtemdfjdmokbcoaaDoor.PAll
open Go.RowKit Go.Proofs.YtemdfjdmokbcoaaDoor.T Go.Proofs.YtemdfjdmokbcoaaDoorW.PrintWords Go.Proofs.YtemdfjdmokbcoaaDoorW.PrintLast Go.Proofs.YtemdfjdmokbcoaaDoorW.PrintMore
attribute [local go_sem] max2_int min2_int max_two min_two max_three min_three max_four min_four   -- for this text's walks alone
set_option linter.unusedVariables false
set_option linter.unusedSimpArgs false

/-! ### spec_l06First: function 37 -/
mutual
def spec_l06First.l0 : Nat → Int → List Int → List (List Int) → Int → Int → List Int → Option ((List (List Int)))
 | 0, _, _, _, _, _, _ => none
 | k + 1, x1, x5, x6, x7, x207000, x207001 => if x7 ≤ x1 then (if 0 ≤ (x5.length : Int) then (if ((x5.length : Int) : Int).toNat ≤ 35184372088832 then ((some (List.replicate ((x5.length : Int) : Int).toNat 0 : List Int)).bind fun y213 => (if x7 = 0 then (if 0 < (y213.length : Int) then (if x6.length < 5864062014805 then (spec_l06First.l0 k x1 x5 (x6 ++ [(y213.set (0 : Int).toNat 1)]) (wrap64 (x7 + 1)) x207000 x207001) else (none)) else (none)) else (if x6.length < 5864062014805 then (spec_l06First.l0 k x1 x5 (x6 ++ [y213]) (wrap64 (x7 + 1)) x207000 x207001) else (none)))) else (none)) else (none)) else (if 0 ≤ x1 then (if x1 < (x6.length : Int) then ((spec_l01Own.f (rd_L1 x6 x1)).bind fun t224 => (spec_l06First.l1 k x1 x5 x6 (([t224] : List (List Int))) 1 x207000 x207001)) else (none)) else (none))
def spec_l06First.l1 : Nat → Int → List Int → List (List Int) → List (List Int) → Int → Int → List Int → Option ((List (List Int)))
 | 0, _, _, _, _, _, _, _ => none
 | k + 1, x1, x5, x6, x9, x10, x207000, x207001 => if x10 ≤ x1 then (spec_l06First.l2 k x1 x5 x6 x9 x10 (([] : List (List Int))) 0 x207000 x207001) else (some x9)
def spec_l06First.l2 : Nat → Int → List Int → List (List Int) → List (List Int) → Int → List (List Int) → Int → Int → List Int → Option ((List (List Int)))
 | 0, _, _, _, _, _, _, _, _, _ => none
 | k + 1, x1, x5, x6, x9, x10, x11, x12, x207000, x207001 => if x12 ≤ x1 then (if 0 ≤ (x5.length : Int) then (if ((x5.length : Int) : Int).toNat ≤ 35184372088832 then (spec_l06First.l3 k x1 x5 x6 x9 x10 x11 x12 (List.replicate ((x5.length : Int) : Int).toNat 0) 1 x207000 x207001) else (none)) else (none)) else (if 0 ≤ x1 then (if x1 < (x11.length : Int) then ((spec_l01Own.f (rd_L1 x11 x1)).bind fun t234 => (if x9.length < 5864062014805 then (spec_l06First.l1 k x1 x5 x11 (x9 ++ [t234]) (wrap64 (x10 + 1)) x207000 x207001) else (none))) else (none)) else (none))
def spec_l06First.l3 : Nat → Int → List Int → List (List Int) → List (List Int) → Int → List (List Int) → Int → List Int → Int → Int → List Int → Option ((List (List Int)))
 | 0, _, _, _, _, _, _, _, _, _, _, _ => none
 | k + 1, x1, x5, x6, x9, x10, x11, x12, x13, x14, x207000, x207001 => if x14 < (x5.length : Int) then (if 0 ≤ x14 then ((spec_l01Bits.f k (rd x5 x14)).bind fun t247 => (if (wrap64 (x12 - t247)) < 0 then (spec_l06First.l3 k x1 x5 x6 x9 x10 x11 x12 x13 (wrap64 (x14 + 1)) x207000 x207001) else ((spec_l06Reach.f k x207000 x207001 (rd x5 x14)).bind fun t249 => (spec_l06First.l4 k x1 x5 x6 x9 x10 x11 x12 x13 x14 (wrap64 (x12 - t247)) t249 0 x207000 x207001)))) else (none)) else (if x11.length < 5864062014805 then (spec_l06First.l2 k x1 x5 x6 x9 x10 (x11 ++ [x13]) (wrap64 (x12 + 1)) x207000 x207001) else (none))
def spec_l06First.l4 : Nat → Int → List Int → List (List Int) → List (List Int) → Int → List (List Int) → Int → List Int → Int → Int → Int → Int → Int → List Int → Option ((List (List Int)))
 | 0, _, _, _, _, _, _, _, _, _, _, _, _, _, _ => none
 | k + 1, x1, x5, x6, x9, x10, x11, x12, x13, x14, x15, x16, x17, x207000, x207001 => if x17 < (x5.length : Int) then (if 0 ≤ x17 then (if (Go.bits .or .i64 (rd x5 x17) x16) = x16 then (if x17 > 0 then (if 0 ≤ x14 then (if x14 < (x13.length : Int) then (if 0 ≤ x15 then (if x15 < (x6.length : Int) then (if x17 < ((rd_L1 x6 x15).length : Int) then (spec_l06First.l4 k x1 x5 x6 x9 x10 x11 x12 (x13.set (x14 : Int).toNat (wrap64 ((rd x13 x14) + (rd (rd_L1 x6 x15) x17)))) x14 x15 x16 (wrap64 (x17 + 1)) x207000 x207001) else (none)) else (none)) else (none)) else (none)) else (none)) else (if x10 = 1 then (if 0 ≤ x14 then (if x14 < (x13.length : Int) then (if 0 ≤ x15 then (if x15 < (x6.length : Int) then (if x17 < ((rd_L1 x6 x15).length : Int) then (spec_l06First.l4 k x1 x5 x6 x9 x10 x11 x12 (x13.set (x14 : Int).toNat (wrap64 ((rd x13 x14) + (rd (rd_L1 x6 x15) x17)))) x14 x15 x16 (wrap64 (x17 + 1)) x207000 x207001) else (none)) else (none)) else (none)) else (none)) else (none)) else (spec_l06First.l4 k x1 x5 x6 x9 x10 x11 x12 x13 x14 x15 x16 (wrap64 (x17 + 1)) x207000 x207001))) else (spec_l06First.l4 k x1 x5 x6 x9 x10 x11 x12 x13 x14 x15 x16 (wrap64 (x17 + 1)) x207000 x207001)) else (none)) else (spec_l06First.l3 k x1 x5 x6 x9 x10 x11 x12 x13 (wrap64 (x14 + 1)) x207000 x207001)
end
def spec_l06First.f (k : Nat) (a0_0 : Int) (l0_1 : List Int) (a1 : Int) : Option ((List (List Int))) := (spec_l02Steps.f k a0_0 l0_1).bind fun t207 => (spec_l06First.l0 k a1 t207 (([] : List (List Int))) 0 a0_0 l0_1)

def spec_l06First.T29 : Bool × List (List Nat × List Nat) := (true, [([], []), ([], []), ([], []), ([], []), ([2, 3], [2, 3]), ([4], [4]), ([], []), ([], []), ([6, 7], [6, 7]), ([8], [8]), ([], []), ([9, 10], [9, 10]), ([11], [11]), ([5, 12], [5, 12]), ([0, 1, 0, 1, 2, 3, 4, 5, 6, 7, 8, 9, 10, 11, 12, 13], [0, 1]), ([14, 13, 0, 1, 2, 3, 4, 5, 6, 7, 8, 9, 10, 11, 12, 13], [13, 14])])
def spec_l06First.B29 : List Nat := [0, 0, 0, 0, 12, 28, 0, 0, 192, 448, 0, 1984, 4032, 8188, 16383, 32767]
theorem spec_l06First.tab29 : rtab .any (opsOf Tryd.f37 29) = spec_l06First.T29 := by kernel_rfl
theorem spec_l06First.bits29 : waitsOk spec_l06First.T29.2 spec_l06First.B29 = true := by kernel_rfl
set_option maxHeartbeats 8000000 in
set_option maxRecDepth 100000 in
theorem spec_l06First.calls (k : Nat) (a0_0 : Int) (A0_1 : Option Addr) (c0_1 : Nat) (l0_1 : List Int) (a1 : Int) (r : List (List Int)) (w : World) (hr0_1 : Kd.C (Kd.int .i64) w A0_1 l0_1.length l0_1) (hc0_1 : l0_1.length ≤ c0_1) (h : spec_l06First.f k a0_0 l0_1 a1 = some r) :
  Calls Tryd.prog 37 #[.agg #[.int .i64 a0_0, .slice A0_1 l0_1.length c0_1], .int .i64 a1] w fun e w' => ∃ v0_ : Value, e = .returned (v0_) ∧ Kd.N (Kd.slice 2 (Kd.int .i64)) 22 w' w.heap.size (fun k_ => (w.heap.size ≤ k_)) v0_ r ∧ Below w.heap.size w w' := by
 have hu29 := Tryd.underlying29
 have HR0_1 := zA hr0_1
 have HC0_1 := zA hc0_1
 clear hr0_1 hc0_1
 have HB := zA (kW w.heap.size w)
 have H := h
 unfold spec_l06First.f at H
 clear h
 obtain ⟨t207, A3, H⟩ := zb H
 try dsimp only at H
 obtain ⟨y210, hy210⟩ : ∃ y_ : List (List Int), y_ = (([] : List (List Int))) := ⟨_, rfl⟩
 replace H : (spec_l06First.l0 k a1 t207 y210 0 a0_0 l0_1) = some r := zy hy210 H
 have Ny210 := zA hy210
 clear hy210
 have H' := zA H
 clear H
 go_enter Tryd.func37, Tryd.ntmps37
 go_wp2_with (first | (refine zBE 2 #[.int .i64 a0_0, .slice A0_1 l0_1.length c0_1] 29 ?_; intro gb206 hg w4 hbox hb; have BK206 := zA (hbox); have GW206 := zA (zBH hg HB.out); have GE206 := zA (zBH hg HB.out); replace HB := zA (kQ (zQ HB.out) hb); clear hb hbox hg; obtain ⟨hcz5_0, hcz5_1, hfz5_0, hfz5_1⟩ := zB3 BK206.out) | (refine zO (some 19) Tryd.func36 #[.agg #[.int .i64 a0_0, .slice A0_1 l0_1.length c0_1]] ?_; (with_reducible refine (spec_l02Steps.calls k a0_0 _ _ l0_1 t207 _ ?side1 ?side2 A3.out).mono ?_); (case side1 => exact zS (kO HR0_1.out HB.out)); (case side2 => exact HC0_1.out); rintro e w6 ⟨v208, rfl, ho0, hb⟩; refine ⟨_, rfl, ?_⟩; have HO209 := zA (kI (Kd.R_newM (M := fun k_ => (w.heap.size ≤ k_)) ho0 (kP (zT HB.out GE206.out)) (fun k_ h_ => h_)) (kP (zT HB.out GE206.out))); replace BK206 := zA (zB1 BK206.out hb); replace HB := zA (kQ (zT HB.out GE206.out) hb); (try clear hb); (try clear ho0)) | ((with_reducible refine kS (N := 20) rfl ?_); refine Kd.N_lit (Kd.slice 2 (Kd.int .i64)) _ 22 ?hg (N' := 20) ?hd (xs := ([] : List (List Int))) (inner := []) (ok := (fun k_ => (w.heap.size ≤ k_) ∧ some k_ ≠ (v208 : Value).ownBlock ∧ k_ ≠ gb206)) (okp := (fun k_ => (w.heap.size ≤ k_) ∧ some k_ ≠ (v208 : Value).ownBlock ∧ k_ ≠ gb206)) ?hr ?hp (fun _ hk => hk) ((show ∀ k_ : Nat, (_ : Nat) ≤ k_ → (fun k_ => (w.heap.size ≤ k_) ∧ some k_ ≠ (v208 : Value).ownBlock ∧ k_ ≠ gb206) k_ from fun k_ hk => ⟨(Nat.le_trans (kP (zT HB.out GE206.out)) hk), jF (kH (zP HO209.out)) k_ hk, jE (g := gb206) (o := .cells #[.int .i64 a0_0, .slice A0_1 l0_1.length c0_1] 29 (0, 0)) (zR BK206.out) k_ hk⟩) _ (Nat.le_refl _)) (kW _ _) (Nat.le_refl _) (by simp) ?_; (case hd => rfl); (case hg => rfl); (case hr => first | (go_simp; done) | (go_simp; rfl)); (case hp => exact (Reps.none _ _)); intro v211 w7 ho8 hb hg_ hnew_; clear hg_ hnew_; (first | rw [← Ny210.out] at ho8 | (simp only [Int.reduceToNat] at ho8; rw [← Ny210.out] at ho8)); replace HO209 := zA (kL (zP HO209.out) hb); have HO212 := zA (jN ho8 (kP (zT HB.out GE206.out))); replace BK206 := zA (zB1 BK206.out hb); replace HB := zA (kQ (zT HB.out GE206.out) hb); clear hb ho8))
 go_loopg [6, 7] k (fun kq v6 v7 w' => ∃ (x5_1 : List Int) (x6_1 : List (List Int)) (x7_1 : Int), v7 = .int .i64 x7_1 ∧ Aside0 (spec_l06First.l0 kq a1 x5_1 x6_1 x7_1 a0_0 l0_1 = some r) ∧ Aside0 (kq ≤ k) ∧ Aside0 (Kd.R (Kd.int .i64) 2 w' w.heap.size (fun k_ => (w.heap.size ≤ k_)) v208 x5_1) ∧ Aside0 (Kd.N (Kd.slice 2 (Kd.int .i64)) 22 w' w.heap.size (fun k_ => (w.heap.size ≤ k_) ∧ some k_ ≠ (v208 : Value).ownBlock ∧ k_ ≠ gb206) v6 x6_1) ∧ Aside0 (w'.heap[gb206]? = some (.cells #[.int .i64 a0_0, (.slice A0_1 l0_1.length c0_1)] 29 (0, 0))) ∧ Aside0 (Below w.heap.size w w'))
 case atStart => exact ⟨(t207), (y210), (0), zs, H', ⟨Nat.le_refl _⟩, ⟨zPM HO209.out (fun _ hk => hk.1)⟩, ⟨zPN HO212.out⟩, ⟨zR BK206.out⟩, ⟨zT HB.out GE206.out⟩⟩
 case round =>
  clear H'
  try clear c3
  try clear hcz5_0
  try clear hcz5_1
  try clear hfz5_0
  try clear hfz5_1
  obtain ⟨x5_1, x6_1, x7_1, rfl, HA, HK1, HO_5, HO_6, BK206, HB⟩ := hrel
  cases gk with
  | zero => exact absurd HA.out (by simp [spec_l06First.l0])
  | succ k1 =>
   have H := HA.out
   clear HA
   simp only [spec_l06First.l0] at H
   by_cases c9 : x7_1 ≤ a1
   ·rw [if_pos c9] at H
    have c9b0 : decide (x7_1 ≤ a1) = true := decide_eq_true c9
    clear c9
    by_cases c10 : 0 ≤ (x5_1.length : Int)
    ·rw [if_pos c10] at H
     have c10b0 := eq_true c10
     have c10b1 : decide (0 ≤ (x5_1.length : Int)) = true := decide_eq_true c10
     clear c10
     by_cases c11 : ((x5_1.length : Int) : Int).toNat ≤ 35184372088832
     ·rw [if_pos c11] at H
      have c11b0 := eq_true c11
      have c11b1 : decide (((x5_1.length : Int) : Int).toNat ≤ 35184372088832) = true := decide_eq_true c11
      clear c11
      obtain ⟨y213, hy213⟩ : ∃ y_ : List Int, y_ = (List.replicate ((x5_1.length : Int) : Int).toNat 0) := ⟨_, rfl⟩
      replace H : (if x7_1 = 0 then (if 0 < (y213.length : Int) then (if x6_1.length < 5864062014805 then (spec_l06First.l0 k1 a1 x5_1 (x6_1 ++ [(y213.set (0 : Int).toNat 1)]) (wrap64 (x7_1 + 1)) a0_0 l0_1) else (none)) else (none)) else (if x6_1.length < 5864062014805 then (spec_l06First.l0 k1 a1 x5_1 (x6_1 ++ [y213]) (wrap64 (x7_1 + 1)) a0_0 l0_1) else (none))) = some r := zy hy213 H
      have Ny213 := zA hy213
      clear hy213
      by_cases c12 : x7_1 = 0
      ·rw [if_pos c12] at H
       obtain ⟨c12b0, c12b1⟩ := zT1 c12
       clear c12
       by_cases c13 : 0 < (y213.length : Int)
       ·rw [if_pos c13] at H
        have c13b0 : decide (0 < (y213.length : Int)) = true := decide_eq_true c13
        have c13b1 : decide (0 < y213.length) = true := decide_eq_true (by omega)
        clear c13
        obtain ⟨y216, hy216⟩ : ∃ y_ : List Int, y_ = (y213.set (0 : Int).toNat 1) := ⟨_, rfl⟩
        replace H : (if x6_1.length < 5864062014805 then (spec_l06First.l0 k1 a1 x5_1 (x6_1 ++ [y216]) (wrap64 (x7_1 + 1)) a0_0 l0_1) else (none)) = some r := zy hy216 H
        have Ny216 := zA hy216
        clear hy216
        by_cases c15 : x6_1.length < 5864062014805
        ·rw [if_pos c15] at H
         have LMc15 := zA c15
         clear c15
         obtain ⟨y217, hy217⟩ : ∃ y_ : List (List Int), y_ = (x6_1 ++ [y216]) := ⟨_, rfl⟩
         replace H : (spec_l06First.l0 k1 a1 x5_1 y217 (wrap64 (x7_1 + 1)) a0_0 l0_1) = some r := zy hy217 H
         have Ny217 := zA hy217
         clear hy217
         have H' := zA H
         clear H
         obtain ⟨Ao16, co16, eo16⟩ := kM HO_5.out
         subst eo16
         go_wp2_with (first | ((with_reducible refine kS (N := 28) rfl ?_); refine Kd.R_make (Kd.int .i64) _ 2 rfl (N := 28) rfl 22 _ _ rfl (x5_1.length : Int) rfl rfl Tryd.underlying22 (.int .i64 0) 8 info2 rfl (by decide) (by omega) 0 (ok := fun _ => True) (okp := fun _ => True) rfl (fun _ hk => hk) trivial (zd) (Nat.le_trans (Nat.mul_le_mul_right _ (zd : (x5_1.length : Int).toNat ≤ 35184372088832)) (by omega)) (kW _ _) (Nat.le_refl _) ?_; intro v214 w17 ho18 hb hg_ hnew_; clear hg_ hnew_; (first | rw [← Ny213.out] at ho18 | (simp only [Int.reduceToNat] at ho18; rw [← Ny213.out] at ho18)); replace HO_6 := zA (Kd.N_elder' (zPN HO_6.out) (kC ho18) hb); have HO215 := zA (kI (kF (Kd.R_newM (M := fun k_ => (w.heap.size ≤ k_)) ho18 (kP (zT HB.out GE206.out)) (fun k_ h_ => h_)) (kH (zP HO_5.out))) (kP (zT HB.out GE206.out))); replace HO_5 := zA (kE (zP HO_5.out) (kC ho18) hb); replace BK206 := zA (zB1 BK206.out hb); replace HB := zA (kQ (zT HB.out GE206.out) hb); clear hb ho18; have p14 : 0 ≤ (0 : Int) := (by omega); have q14 : (0 : Int) < ((y213.length : Int) : Int) := zd; have qi14 : (0 < y213.length) = True := eq_true (by omega); obtain ⟨go14, co14, eo14, gb14, gl14, cl14, HG14⟩ := Kd.R_form HO215.out (by omega); (first | cases eo14 | (injection eo14 with ea_ en_ ec_; (first | subst ea_ | (injection ea_ with ea_; subst ea_)); subst ec_; clear en_)); have GB14 := zA gb14; have GG14 := zA HG14; clear gb14 gl14 HG14; obtain ⟨hx14_0, hf14_0⟩ := Kd.R_celln 0 HO215.out (0 : Int) p14 q14; (try rw [show ((0 : Int)).toNat = 0 from rfl] at hx14_0); (try simp only [Nat.reduceMul, Nat.zero_mul, Nat.zero_add, Nat.reduceAdd] at hx14_0); (try rw [show ((0 : Int)).toNat = 0 from rfl] at hf14_0); (try simp only [Nat.reduceMul, Nat.zero_mul, Nat.zero_add, Nat.reduceAdd] at hf14_0); replace p14 := eq_true p14; replace q14 := eq_true q14; have n_ := zA (kA (ok' := (fun k_ => (w.heap.size ≤ k_) ∧ some k_ ≠ (.slice Ao16 x5_1.length co16 : Value).ownBlock)) HO215.out (fun k_ hk => ⟨hk.1.1, hk.2⟩)); clear HO215; have HO215 := n_; clear n_; obtain ⟨hy19_, hz19_⟩ := Kd.R_celln 0 HO215.out (0 : Int) (by omega) (zd); (try simp only [Int.reduceToNat, Int.toNat_zero, Int.toNat_ofNat, Nat.reduceMul, Nat.zero_mul, Nat.zero_add] at hy19_ hz19_); (try rw [show ((0 : Int)).toNat = 0 from rfl] at hy19_); (try rw [show ((0 : Int)).toNat = 0 from rfl] at hz19_); have HP19 := Kd.R_putg HO215.out (0 : Int) 1) | ((with_reducible refine gate_store (t := 2) (p := 32) rfl ?_); refine store_event (t := 2) (p := 32) (v := ?vo_w20) (w1 := (w17.setCell ⟨go14, (0 : Int).toNat, none⟩ (.int .i64 1))) ?hg ?ho ?hn ?hr ?_; (case ho => rfl); (case hg => rfl); (case hn => rfl); (case hr => first | (go_simp; done) | (go_simp; rfl)); intro w20 hw; have hg : w17.grownBy w20 (some go14) := (by rw [hw]; exact HP19.2); have hp_ : Kd.R (Kd.int .i64) 2 w20 w.heap.size (fun k_ => (w.heap.size ≤ k_) ∧ some k_ ≠ (.slice Ao16 x5_1.length co16 : Value).ownBlock) (.slice (some ⟨go14, 0, none⟩) y213.length co14) y216 := (by rw [hw, Ny216.out]; exact HP19.1); clear HP19; replace HO_5 := zA (Kd.R_after (v := (.slice (some ⟨go14, 0, none⟩) y213.length co14)) (v1 := (.slice (some ⟨go14, 0, none⟩) y213.length co14)) (ok := (fun k_ => (w.heap.size ≤ k_))) (zP HO_5.out) hg (.inl rfl)); replace HO_6 := zA (Kd.N_afterv (v := (.slice (some ⟨go14, 0, none⟩) y213.length co14)) (v1 := (.slice (some ⟨go14, 0, none⟩) y213.length co14)) (ok := (fun k_ => (w.heap.size ≤ k_) ∧ some k_ ≠ (.slice Ao16 x5_1.length co16 : Value).ownBlock ∧ k_ ≠ gb206)) (zPN HO_6.out) hg (.inl rfl)); replace BK206 := zA (blk_grown (g := gb206) (o := .cells #[.int .i64 a0_0, .slice A0_1 l0_1.length c0_1] 29 (0, 0)) (zR BK206.out) hg (Kd.R_ne HO215.out BK206.out (by decide))); replace HO215 := zA (hp_); replace HB := zA ((by rw [hw]; exact zE (HB.out) GB14.out : Below w.heap.size w w20)); clear hg hw hp_) | ((with_reducible refine gate_builtin (b := .append) (xs := #[.tmp 33, .tmp 35]) rfl ?_); at_builtin; refine Kd.N_append (Kd.slice 2 (Kd.int .i64)) (w0 := w) w.heap.size rfl (.tmp 33) (.tmp 35) 26 22 (.slice none 0 0) 24 rfl Tryd.underlying26 info22 rfl (by decide) (by omega) u6 x6_1 y216 [.slice (some ⟨go14, 0, none⟩) y213.length co14] (fun k_ => (w.heap.size ≤ k_) ∧ some k_ ≠ (.slice Ao16 x5_1.length co16 : Value).ownBlock ∧ k_ ≠ gb206) (fun k_ => ((fun k_ => (w.heap.size ≤ k_) ∧ some k_ ≠ (.slice Ao16 x5_1.length co16 : Value).ownBlock ∧ k_ ≠ gb206)) k_ ∧ some k_ ≠ (u6 : Value).ownBlock) rfl rfl ?aP (fun _ hk => hk) ?aF ?aO ?aB ?aS ?aL ?_; (case aP => have e_ : y213.length = y216.length := (by rw [Ny216.out, List.length_set]); have HQ_ := HO215.out; rw [e_] at HQ_ ⊢; exact (Kd.FK_slice_mk (kB (kA (ok' := (fun k_ => ((fun k_ => (w.heap.size ≤ k_) ∧ some k_ ≠ (.slice Ao16 x5_1.length co16 : Value).ownBlock ∧ k_ ≠ gb206)) k_ ∧ some k_ ≠ (u6 : Value).ownBlock)) (kD (Kd.R_apart' (HQ_) (Kd.N_typed HO_6.out) (by decide)) BK206.out (by decide)) (fun k_ hk => ⟨⟨hk.1.1.1, ⟨hk.1.1.2, hk.2⟩⟩, hk.1.2⟩))).2.1 (Kd.R_F (kA (ok' := (fun k_ => ((fun k_ => (w.heap.size ≤ k_) ∧ some k_ ≠ (.slice Ao16 x5_1.length co16 : Value).ownBlock ∧ k_ ≠ gb206)) k_ ∧ some k_ ≠ (u6 : Value).ownBlock)) (kD (Kd.R_apart' (HQ_) (Kd.N_typed HO_6.out) (by decide)) BK206.out (by decide)) (fun k_ hk => ⟨⟨hk.1.1.1, ⟨hk.1.1.2, hk.2⟩⟩, hk.1.2⟩))))); (case aB => exact (zT HB.out GE206.out)); (case aF => exact (fun k_ hk => ⟨(Nat.le_trans (kP (zT HB.out GE206.out)) hk), jF (kH (zP HO_5.out)) k_ hk, jE (g := gb206) (o := .cells #[.int .i64 a0_0, .slice A0_1 l0_1.length c0_1] 29 (0, 0)) (zR BK206.out) k_ hk⟩)); (case aO => exact (by (with_reducible repeat (first | apply Kd.N_alloc | apply Kd.N_drewN | apply Kd.N_drew)); exact Kd.N_mono HO_6.out (fun _ hk => ⟨hk.1.1, ⟨hk.1.2.1, hk.1.2.2⟩⟩))); (case aS => exact (kP (zT HB.out GE206.out))); (case aL => have := LMc15.out; omega); intro v218 w21 ho hb hg hat; rw [← Ny217.out] at ho; replace HO_5 := zA (Kd.R_over' (zP HO_5.out) (Kd.N_typed (zPN HO_6.out)) (by decide) hg); replace BK206 := zA (blk_grown (g := gb206) (o := .cells #[.int .i64 a0_0, .slice A0_1 l0_1.length c0_1] 29 (0, 0)) (zR BK206.out) hg (Kd.N_ne HO_6.out BK206.out (by decide))); replace HB := zA (hb); have HO219 := zA (ho); clear HO_6 HO215; clear ho hb hg hat))
         go_roundg k1
         case measure => have := HK1.out; omega
         case rel => exact ⟨(x5_1), (y217), (wrap64 (x7_1 + 1)), zs, H', ⟨by have := HK1.out; omega⟩, ⟨zPM HO_5.out (fun _ hk => hk.1)⟩, ⟨zPN HO219.out⟩, ⟨zR BK206.out⟩, ⟨zT HB.out GE206.out⟩⟩
        rw [if_neg c15] at H
        exact absurd H (by simp)
       rw [if_neg c13] at H
       exact absurd H (by simp)
      rw [if_neg c12] at H
      obtain ⟨c12b0, c12b1⟩ := zT2 c12
      by_cases c22 : x6_1.length < 5864062014805
      ·rw [if_pos c22] at H
       have LMc22 := zA c22
       clear c22
       obtain ⟨y220, hy220⟩ : ∃ y_ : List (List Int), y_ = (x6_1 ++ [y213]) := ⟨_, rfl⟩
       replace H : (spec_l06First.l0 k1 a1 x5_1 y220 (wrap64 (x7_1 + 1)) a0_0 l0_1) = some r := zy hy220 H
       have Ny220 := zA hy220
       clear hy220
       have H' := zA H
       clear H
       obtain ⟨Ao23, co23, eo23⟩ := kM HO_5.out
       subst eo23
       go_wp2_with (first | ((with_reducible refine kS (N := 28) rfl ?_); refine Kd.R_make (Kd.int .i64) _ 2 rfl (N := 28) rfl 22 _ _ rfl (x5_1.length : Int) rfl rfl Tryd.underlying22 (.int .i64 0) 8 info2 rfl (by decide) (by omega) 0 (ok := fun _ => True) (okp := fun _ => True) rfl (fun _ hk => hk) trivial (zd) (Nat.le_trans (Nat.mul_le_mul_right _ (zd : (x5_1.length : Int).toNat ≤ 35184372088832)) (by omega)) (kW _ _) (Nat.le_refl _) ?_; intro v214 w24 ho25 hb hg_ hnew_; clear hg_ hnew_; (first | rw [← Ny213.out] at ho25 | (simp only [Int.reduceToNat] at ho25; rw [← Ny213.out] at ho25)); replace HO_6 := zA (Kd.N_elder' (zPN HO_6.out) (kC ho25) hb); have HO215 := zA (kI (kF (Kd.R_newM (M := fun k_ => (w.heap.size ≤ k_)) ho25 (kP (zT HB.out GE206.out)) (fun k_ h_ => h_)) (kH (zP HO_5.out))) (kP (zT HB.out GE206.out))); replace HO_5 := zA (kE (zP HO_5.out) (kC ho25) hb); replace BK206 := zA (zB1 BK206.out hb); replace HB := zA (kQ (zT HB.out GE206.out) hb); clear hb ho25; obtain ⟨Ao27, co27, eo27⟩ := kM HO215.out; subst eo27) | ((with_reducible refine gate_builtin (b := .append) (xs := #[.tmp 33, .tmp 35]) rfl ?_); at_builtin; refine Kd.N_append (Kd.slice 2 (Kd.int .i64)) (w0 := w) w.heap.size rfl (.tmp 33) (.tmp 35) 26 22 (.slice none 0 0) 24 rfl Tryd.underlying26 info22 rfl (by decide) (by omega) u6 x6_1 y213 [.slice Ao27 y213.length co27] (fun k_ => (w.heap.size ≤ k_) ∧ some k_ ≠ (.slice Ao23 x5_1.length co23 : Value).ownBlock ∧ k_ ≠ gb206) (fun k_ => ((fun k_ => (w.heap.size ≤ k_) ∧ some k_ ≠ (.slice Ao23 x5_1.length co23 : Value).ownBlock ∧ k_ ≠ gb206)) k_ ∧ some k_ ≠ (u6 : Value).ownBlock) rfl rfl ?aP (fun _ hk => hk) ?aF ?aO ?aB ?aS ?aL ?_; (case aP => exact (Kd.FK_slice_mk (kB (kA (ok' := (fun k_ => ((fun k_ => (w.heap.size ≤ k_) ∧ some k_ ≠ (.slice Ao23 x5_1.length co23 : Value).ownBlock ∧ k_ ≠ gb206)) k_ ∧ some k_ ≠ (u6 : Value).ownBlock)) (kD (Kd.R_apart' (HO215.out) (Kd.N_typed HO_6.out) (by decide)) BK206.out (by decide)) (fun k_ hk => ⟨⟨hk.1.1.1.1, ⟨hk.1.1.2, hk.2⟩⟩, hk.1.2⟩))).2.1 (Kd.R_F (kA (ok' := (fun k_ => ((fun k_ => (w.heap.size ≤ k_) ∧ some k_ ≠ (.slice Ao23 x5_1.length co23 : Value).ownBlock ∧ k_ ≠ gb206)) k_ ∧ some k_ ≠ (u6 : Value).ownBlock)) (kD (Kd.R_apart' (HO215.out) (Kd.N_typed HO_6.out) (by decide)) BK206.out (by decide)) (fun k_ hk => ⟨⟨hk.1.1.1.1, ⟨hk.1.1.2, hk.2⟩⟩, hk.1.2⟩))))); (case aB => exact (zT HB.out GE206.out)); (case aF => exact (fun k_ hk => ⟨(Nat.le_trans (kP (zT HB.out GE206.out)) hk), jF (kH (zP HO_5.out)) k_ hk, jE (g := gb206) (o := .cells #[.int .i64 a0_0, .slice A0_1 l0_1.length c0_1] 29 (0, 0)) (zR BK206.out) k_ hk⟩)); (case aO => exact (by (with_reducible repeat (first | apply Kd.N_alloc | apply Kd.N_drewN | apply Kd.N_drew)); exact Kd.N_mono HO_6.out (fun _ hk => ⟨hk.1.1, ⟨hk.1.2.1, hk.1.2.2⟩⟩))); (case aS => exact (kP (zT HB.out GE206.out))); (case aL => have := LMc22.out; omega); intro v221 w26 ho hb hg hat; rw [← Ny220.out] at ho; replace HO_5 := zA (Kd.R_over' (zP HO_5.out) (Kd.N_typed (zPN HO_6.out)) (by decide) hg); replace BK206 := zA (blk_grown (g := gb206) (o := .cells #[.int .i64 a0_0, .slice A0_1 l0_1.length c0_1] 29 (0, 0)) (zR BK206.out) hg (Kd.N_ne HO_6.out BK206.out (by decide))); replace HB := zA (hb); have HO222 := zA (ho); clear HO_6 HO215; clear ho hb hg hat))
       go_roundg k1
       case measure => have := HK1.out; omega
       case rel => exact ⟨(x5_1), (y220), (wrap64 (x7_1 + 1)), zs, H', ⟨by have := HK1.out; omega⟩, ⟨zPM HO_5.out (fun _ hk => hk.1)⟩, ⟨zPN HO222.out⟩, ⟨zR BK206.out⟩, ⟨zT HB.out GE206.out⟩⟩
      rw [if_neg c22] at H
      exact absurd H (by simp)
     rw [if_neg c11] at H
     exact absurd H (by simp)
    rw [if_neg c10] at H
    exact absurd H (by simp)
   rw [if_neg c9] at H
   have c9b0 : decide (x7_1 ≤ a1) = false := decide_eq_false c9
   clear c9
   by_cases c28 : 0 ≤ a1
   ·rw [if_pos c28] at H
    have c28b0 : decide (0 ≤ a1) = true := decide_eq_true c28
    clear c28
    by_cases c29 : a1 < (x6_1.length : Int)
    ·rw [if_pos c29] at H
     have c29b0 : decide (a1 < (x6_1.length : Int)) = true := decide_eq_true c29
     clear c29
     obtain ⟨t224, A30, H⟩ := zb H
     try dsimp only at H
     obtain ⟨y227, hy227⟩ : ∃ y_ : List (List Int), y_ = (([t224] : List (List Int))) := ⟨_, rfl⟩
     replace H : (spec_l06First.l1 k1 a1 x5_1 x6_1 y227 1 a0_0 l0_1) = some r := zy hy227 H
     have Ny227 := zA hy227
     clear hy227
     have H' := zA H
     clear H
     obtain ⟨Ao31, co31, eo31⟩ := Kd.N_slice HO_6.out
     subst eo31
     have p223 : 0 ≤ (a1 : Int) := zd
     have q223 : a1 < (x6_1.length : Int) := zd
     obtain ⟨ad223, A223_0, c223_0, e223, hx223_0, hl223_0, hi223_0⟩ := at_L1 (Kd.N_reads' HO_6.out).2.2 a1 p223 q223
     cases e223
     obtain ⟨ce223, hce223, hMe223, hcc223⟩ := Kd.N_get HO_6.out [] a1 p223 (by first | exact q223 | exact zd | (have e_ := (Kd.N_reads' HO_6.out).1; omega))
     obtain ⟨ua223_0, uc223_0, rfl, ul223_0, ge223_0⟩ := Kd.FK_slice_open hMe223
     have hv223_0 := hcc223 0 _ rfl
     rw [Nat.add_zero, show ((Kd.slice 2 (Kd.int .i64))).sz = 1 from rfl, Nat.mul_one] at hv223_0
     replace hv223_0 := Option.some.inj (hv223_0.symm.trans hx223_0)
     injection hv223_0 with hva_ hvn_ hvc_
     rw [hva_] at ge223_0
     rw [hvc_] at ul223_0
     have HL223_0 := zA (show Kd.V (Kd.int .i64) 2 _ w.heap.size _ _ (rd_L1 x6_1 a1) from Kd.V_mk ul223_0 ge223_0)
     clear hva_ hvn_ hvc_ ge223_0 ul223_0 hcc223 hce223
     have HR223_0 := zA hi223_0
     have HC223_0 := zA hl223_0
     clear hi223_0 hl223_0
     replace p223 := eq_true p223
     replace q223 := eq_true q223
     go_wp2_with (first | (refine zO (some 41) Tryd.func46 #[.slice A223_0 (rd_L1 x6_1 a1).length c223_0] ?_; (with_reducible refine (spec_l01Own.calls _ _ (rd_L1 x6_1 a1) t224 _ ?side1 ?side2 A30.out).mono ?_); (case side1 => repeat (first | exact (by repeat (first | (with_reducible exact HR223_0.out) | (with_reducible refine Kd.C_alloc ?_ _) | (with_reducible refine Kd.C_drewN ?_ _) | (with_reducible refine Kd.C_drew ?_) | exact HR223_0.out)) | (with_reducible refine Kd.C_alloc ?_ _) | (with_reducible refine Kd.C_drewN ?_ _) | (with_reducible refine Kd.C_drew ?_))); (case side2 => exact HC223_0.out); rintro e w32 ⟨v225, rfl, ho0, hb⟩; refine ⟨_, rfl, ?_⟩; replace HO_6 := zA (Kd.N_elder' (zPN HO_6.out) (kC ho0) hb); replace HL223_0 := zA (kK (zPV HL223_0.out) (kC ho0) hb); have HO226 := zA (kI (kF (Kd.R_newM (M := fun k_ => (w.heap.size ≤ k_)) ho0 (kP (zT HB.out GE206.out)) (fun k_ h_ => h_)) (kH (zP HO_5.out))) (kP (zT HB.out GE206.out))); replace HO_5 := zA (kE (zP HO_5.out) (kC ho0) hb); replace BK206 := zA (zB1 BK206.out hb); replace HR223_0 := zA (kO (by repeat (first | (with_reducible exact HR223_0.out) | (with_reducible refine Kd.C_alloc ?_ _) | (with_reducible refine Kd.C_drewN ?_ _) | (with_reducible refine Kd.C_drew ?_) | exact HR223_0.out)) hb); replace HB := zA (kQ (zT HB.out GE206.out) hb); (try clear hb); (try clear ho0); obtain ⟨Ao33, co33, eo33⟩ := kM HO226.out; subst eo33) | ((with_reducible refine kS (N := 42) rfl ?_); refine Kd.N_lit (Kd.slice 2 (Kd.int .i64)) _ 22 ?hg (N' := 42) ?hd (xs := ([t224] : List (List Int))) (inner := [.slice Ao33 t224.length co33]) (ok := (fun k_ => (w.heap.size ≤ k_) ∧ some k_ ≠ (v208 : Value).ownBlock ∧ some k_ ≠ (.slice (some ad223) x6_1.length co31 : Value).ownBlock ∧ k_ ≠ gb206)) (okp := (fun k_ => (w.heap.size ≤ k_) ∧ some k_ ≠ (v208 : Value).ownBlock ∧ some k_ ≠ (.slice (some ad223) x6_1.length co31 : Value).ownBlock ∧ k_ ≠ gb206)) ?hr ?hp (fun _ hk => hk) ((show ∀ k_ : Nat, (_ : Nat) ≤ k_ → (fun k_ => (w.heap.size ≤ k_) ∧ some k_ ≠ (v208 : Value).ownBlock ∧ some k_ ≠ (.slice (some ad223) x6_1.length co31 : Value).ownBlock ∧ k_ ≠ gb206) k_ from fun k_ hk => ⟨(Nat.le_trans (kP (zT HB.out GE206.out)) hk), jF (kH (zP HO_5.out)) k_ hk, jF (jA (zPN HO_6.out)) k_ hk, jE (g := gb206) (o := .cells #[.int .i64 a0_0, .slice A0_1 l0_1.length c0_1] 29 (0, 0)) (zR BK206.out) k_ hk⟩) _ (Nat.le_refl _)) (kW _ _) (Nat.le_refl _) (by simp) ?_; (case hd => rfl); (case hg => rfl); (case hr => first | (go_simp; done) | (go_simp; rfl)); (case hp => exact (Reps.one (show Kd.FK (Kd.slice 2 (Kd.int .i64)) _ _ t224 [.slice Ao33 t224.length co33] from (Kd.FK_slice_mk (kB (kA (ok' := (fun k_ => (w.heap.size ≤ k_) ∧ some k_ ≠ (v208 : Value).ownBlock ∧ some k_ ≠ (.slice (some ad223) x6_1.length co31 : Value).ownBlock ∧ k_ ≠ gb206)) (kD (Kd.R_apart' (HO226.out) (Kd.N_typed HO_6.out) (by decide)) BK206.out (by decide)) (fun k_ hk => ⟨hk.1.1.1.1, ⟨hk.1.1.2, ⟨hk.1.2, hk.2⟩⟩⟩))).2.1 (Kd.R_F (kA (ok' := (fun k_ => (w.heap.size ≤ k_) ∧ some k_ ≠ (v208 : Value).ownBlock ∧ some k_ ≠ (.slice (some ad223) x6_1.length co31 : Value).ownBlock ∧ k_ ≠ gb206)) (kD (Kd.R_apart' (HO226.out) (Kd.N_typed HO_6.out) (by decide)) BK206.out (by decide)) (fun k_ hk => ⟨hk.1.1.1.1, ⟨hk.1.1.2, ⟨hk.1.2, hk.2⟩⟩⟩))))) (Reps.none _ _))); intro v228 w34 ho35 hb hg_ hnew_; clear hg_ hnew_; (first | rw [← Ny227.out] at ho35 | (simp only [Int.reduceToNat] at ho35; rw [← Ny227.out] at ho35)); replace HO_5 := zA (kL (zP HO_5.out) hb); replace HO_6 := zA (Kd.N_elder' (zPN HO_6.out) (Kd.N_base ho35) hb); replace HL223_0 := zA (kK (zPV HL223_0.out) (Kd.N_base ho35) hb); have HO229 := zA (jN ho35 (kP (zT HB.out GE206.out))); replace BK206 := zA (zB1 BK206.out hb); replace HR223_0 := zA (kO (by repeat (first | (with_reducible exact HR223_0.out) | (with_reducible refine Kd.C_alloc ?_ _) | (with_reducible refine Kd.C_drewN ?_ _) | (with_reducible refine Kd.C_drew ?_) | exact HR223_0.out)) hb); replace HB := zA (kQ (zT HB.out GE206.out) hb); clear HO226; clear hb ho35))
     go_loopg [6, 9, 10] k1 (fun kq v6 v9 v10 w' => ∃ (x5_2 : List Int) (x6_2 : List (List Int)) (x9_2 : List (List Int)) (x10_2 : Int), v10 = .int .i64 x10_2 ∧ Aside0 (spec_l06First.l1 kq a1 x5_2 x6_2 x9_2 x10_2 a0_0 l0_1 = some r) ∧ Aside0 (kq ≤ k1) ∧ Aside0 (Kd.R (Kd.int .i64) 2 w' w.heap.size (fun k_ => (w.heap.size ≤ k_)) v208 x5_2) ∧ Aside0 (Kd.N (Kd.slice 2 (Kd.int .i64)) 22 w' w.heap.size (fun k_ => (w.heap.size ≤ k_) ∧ some k_ ≠ (v208 : Value).ownBlock ∧ some k_ ≠ (v9 : Value).ownBlock ∧ k_ ≠ gb206) v6 x6_2) ∧ Aside0 (Kd.N (Kd.slice 2 (Kd.int .i64)) 22 w' w.heap.size (fun k_ => (w.heap.size ≤ k_) ∧ some k_ ≠ (v208 : Value).ownBlock ∧ some k_ ≠ (v6 : Value).ownBlock ∧ k_ ≠ gb206) v9 x9_2) ∧ Aside0 (w'.heap[gb206]? = some (.cells #[.int .i64 a0_0, (.slice A0_1 l0_1.length c0_1)] 29 (0, 0))) ∧ Aside0 (Below w.heap.size w w'))
     case atStart => exact ⟨(x5_1), (x6_1), (y227), (1), zs, H', ⟨Nat.le_refl _⟩, ⟨zPM HO_5.out (fun _ hk => hk.1)⟩, ⟨by (with_reducible repeat (first | apply Kd.N_alloc | apply Kd.N_drewN | apply Kd.N_drew)); exact Kd.N_mono HO_6.out (fun _ hk => ⟨hk.1.1.1, ⟨hk.1.1.2.1, ⟨hk.2, hk.1.1.2.2⟩⟩⟩)⟩, ⟨zPN HO229.out⟩, ⟨zR BK206.out⟩, ⟨zT HB.out GE206.out⟩⟩
     case round =>
      clear H'
      try clear c1
      try clear hx1
      try clear qi1
      try clear c2
      try clear hx2
      try clear c3
      try clear c4
      try clear c9
      try clear c10
      try clear c11
      try clear c12
      try clear c13
      try clear hx14
      try clear qi14
      try clear hf14
      try clear c15
      try clear c22
      try clear hx22
      try clear c28
      try clear c29
      try clear hcz5_0
      try clear hcz5_1
      try clear hfz5_0
      try clear hfz5_1
      try clear hx14_0
      try clear hx223_0
      obtain ⟨x5_2, x6_2, x9_2, x10_2, rfl, HA, HK2, HO_5, HO_6, HO_9, BK206, HB⟩ := hrel
      cases gk with
      | zero => exact absurd HA.out (by simp [spec_l06First.l1])
      | succ k2 =>
       have H := HA.out
       clear HA
       simp only [spec_l06First.l1] at H
       by_cases c36 : x10_2 ≤ a1
       ·rw [if_pos c36] at H
        have c36b0 : decide (x10_2 ≤ a1) = true := decide_eq_true c36
        clear c36
        obtain ⟨y230, hy230⟩ : ∃ y_ : List (List Int), y_ = (([] : List (List Int))) := ⟨_, rfl⟩
        replace H : (spec_l06First.l2 k2 a1 x5_2 x6_2 x9_2 x10_2 y230 0 a0_0 l0_1) = some r := zy hy230 H
        have Ny230 := zA hy230
        clear hy230
        have H' := zA H
        clear H
        go_wp2_with (first | ((with_reducible refine kS (N := 48) rfl ?_); refine Kd.N_lit (Kd.slice 2 (Kd.int .i64)) _ 22 ?hg (N' := 48) ?hd (xs := ([] : List (List Int))) (inner := []) (ok := (fun k_ => (w.heap.size ≤ k_) ∧ some k_ ≠ (v208 : Value).ownBlock ∧ some k_ ≠ (u6 : Value).ownBlock ∧ some k_ ≠ (u9 : Value).ownBlock ∧ k_ ≠ gb206)) (okp := (fun k_ => (w.heap.size ≤ k_) ∧ some k_ ≠ (v208 : Value).ownBlock ∧ some k_ ≠ (u6 : Value).ownBlock ∧ some k_ ≠ (u9 : Value).ownBlock ∧ k_ ≠ gb206)) ?hr ?hp (fun _ hk => hk) ((show ∀ k_ : Nat, (_ : Nat) ≤ k_ → (fun k_ => (w.heap.size ≤ k_) ∧ some k_ ≠ (v208 : Value).ownBlock ∧ some k_ ≠ (u6 : Value).ownBlock ∧ some k_ ≠ (u9 : Value).ownBlock ∧ k_ ≠ gb206) k_ from fun k_ hk => ⟨(Nat.le_trans (kP (zT HB.out GE206.out)) hk), jF (kH (zP HO_5.out)) k_ hk, jF (jA (zPN HO_6.out)) k_ hk, jF (jA (zPN HO_9.out)) k_ hk, jE (g := gb206) (o := .cells #[.int .i64 a0_0, .slice A0_1 l0_1.length c0_1] 29 (0, 0)) (zR BK206.out) k_ hk⟩) _ (Nat.le_refl _)) (kW _ _) (Nat.le_refl _) (by simp) ?_; (case hd => rfl); (case hg => rfl); (case hr => first | (go_simp; done) | (go_simp; rfl)); (case hp => exact (Reps.none _ _)); intro v231 w37 ho38 hb hg_ hnew_; clear hg_ hnew_; (first | rw [← Ny230.out] at ho38 | (simp only [Int.reduceToNat] at ho38; rw [← Ny230.out] at ho38)); replace HO_5 := zA (kL (zP HO_5.out) hb); replace HO_6 := zA (Kd.N_elder' (zPN HO_6.out) (Kd.N_base ho38) hb); replace HO_9 := zA (Kd.N_elder' (zPN HO_9.out) (Kd.N_base ho38) hb); have HO232 := zA (jN ho38 (kP (zT HB.out GE206.out))); replace BK206 := zA (zB1 BK206.out hb); replace HB := zA (kQ (zT HB.out GE206.out) hb); clear hb ho38))
        go_loopg [11, 12] k2 (fun kq v11 v12 w' => ∃ (x5_3 : List Int) (x11_3 : List (List Int)) (x12_3 : Int), v12 = .int .i64 x12_3 ∧ Aside0 (spec_l06First.l2 kq a1 x5_3 x6_2 x9_2 x10_2 x11_3 x12_3 a0_0 l0_1 = some r) ∧ Aside0 (kq ≤ k2) ∧ Aside0 (Kd.R (Kd.int .i64) 2 w' w.heap.size (fun k_ => (w.heap.size ≤ k_)) v208 x5_3) ∧ Aside0 (Kd.N (Kd.slice 2 (Kd.int .i64)) 22 w' w.heap.size (fun k_ => (w.heap.size ≤ k_) ∧ some k_ ≠ (v208 : Value).ownBlock ∧ some k_ ≠ (u9 : Value).ownBlock ∧ some k_ ≠ (v11 : Value).ownBlock ∧ k_ ≠ gb206) u6 x6_2) ∧ Aside0 (Kd.N (Kd.slice 2 (Kd.int .i64)) 22 w' w.heap.size (fun k_ => (w.heap.size ≤ k_) ∧ some k_ ≠ (v208 : Value).ownBlock ∧ some k_ ≠ (u6 : Value).ownBlock ∧ some k_ ≠ (v11 : Value).ownBlock ∧ k_ ≠ gb206) u9 x9_2) ∧ Aside0 (Kd.N (Kd.slice 2 (Kd.int .i64)) 22 w' w.heap.size (fun k_ => (w.heap.size ≤ k_) ∧ some k_ ≠ (v208 : Value).ownBlock ∧ some k_ ≠ (u6 : Value).ownBlock ∧ some k_ ≠ (u9 : Value).ownBlock ∧ k_ ≠ gb206) v11 x11_3) ∧ Aside0 (w'.heap[gb206]? = some (.cells #[.int .i64 a0_0, (.slice A0_1 l0_1.length c0_1)] 29 (0, 0))) ∧ Aside0 (Below w.heap.size w w'))
        case atStart => exact ⟨(x5_2), (y230), (0), zs, H', ⟨Nat.le_refl _⟩, ⟨zP HO_5.out⟩, ⟨by (with_reducible repeat (first | apply Kd.N_alloc | apply Kd.N_drewN | apply Kd.N_drew)); exact Kd.N_mono HO_6.out (fun _ hk => ⟨hk.1.1, ⟨hk.1.2.1, ⟨hk.1.2.2.1, ⟨hk.2, hk.1.2.2.2⟩⟩⟩⟩)⟩, ⟨by (with_reducible repeat (first | apply Kd.N_alloc | apply Kd.N_drewN | apply Kd.N_drew)); exact Kd.N_mono HO_9.out (fun _ hk => ⟨hk.1.1, ⟨hk.1.2.1, ⟨hk.1.2.2.1, ⟨hk.2, hk.1.2.2.2⟩⟩⟩⟩)⟩, ⟨zPN HO232.out⟩, ⟨zR BK206.out⟩, ⟨zT HB.out GE206.out⟩⟩
        case round =>
         clear H'
         try clear c1
         try clear hx1
         try clear qi1
         try clear c2
         try clear hx2
         try clear c3
         try clear c4
         try clear c9
         try clear c10
         try clear c11
         try clear c12
         try clear c13
         try clear hx14
         try clear qi14
         try clear hf14
         try clear c15
         try clear c22
         try clear hx22
         try clear c28
         try clear c29
         try clear c36
         try clear c37
         try clear hcz5_0
         try clear hcz5_1
         try clear hfz5_0
         try clear hfz5_1
         try clear hx14_0
         try clear hx223_0
         obtain ⟨x5_3, x11_3, x12_3, rfl, HA, HK3, HO_5, HO_6, HO_9, HO_11, BK206, HB⟩ := hrel
         cases gk with
         | zero => exact absurd HA.out (by simp [spec_l06First.l2])
         | succ k3 =>
          have H := HA.out
          clear HA
          simp only [spec_l06First.l2] at H
          by_cases c39 : x12_3 ≤ a1
          ·rw [if_pos c39] at H
           have c39b0 : decide (x12_3 ≤ a1) = true := decide_eq_true c39
           clear c39
           by_cases c40 : 0 ≤ (x5_3.length : Int)
           ·rw [if_pos c40] at H
            have c40b0 := eq_true c40
            have c40b1 : decide (0 ≤ (x5_3.length : Int)) = true := decide_eq_true c40
            clear c40
            by_cases c41 : ((x5_3.length : Int) : Int).toNat ≤ 35184372088832
            ·rw [if_pos c41] at H
             have c41b0 := eq_true c41
             have c41b1 : decide (((x5_3.length : Int) : Int).toNat ≤ 35184372088832) = true := decide_eq_true c41
             clear c41
             obtain ⟨y240, hy240⟩ : ∃ y_ : List Int, y_ = (List.replicate ((x5_3.length : Int) : Int).toNat 0) := ⟨_, rfl⟩
             replace H : (spec_l06First.l3 k3 a1 x5_3 x6_2 x9_2 x10_2 x11_3 x12_3 y240 1 a0_0 l0_1) = some r := zy hy240 H
             have Ny240 := zA hy240
             clear hy240
             have H' := zA H
             clear H
             obtain ⟨Ao42, co42, eo42⟩ := kM HO_5.out
             subst eo42
             go_wp2_with (first | ((with_reducible refine kS (N := 56) rfl ?_); refine Kd.R_make (Kd.int .i64) _ 2 rfl (N := 56) rfl 22 _ _ rfl (x5_3.length : Int) rfl rfl Tryd.underlying22 (.int .i64 0) 8 info2 rfl (by decide) (by omega) 0 (ok := fun _ => True) (okp := fun _ => True) rfl (fun _ hk => hk) trivial (zd) (Nat.le_trans (Nat.mul_le_mul_right _ (zd : (x5_3.length : Int).toNat ≤ 35184372088832)) (by omega)) (kW _ _) (Nat.le_refl _) ?_; intro v241 w43 ho44 hb hg_ hnew_; clear hg_ hnew_; (first | rw [← Ny240.out] at ho44 | (simp only [Int.reduceToNat] at ho44; rw [← Ny240.out] at ho44)); replace HO_6 := zA (Kd.N_elder' (zPN HO_6.out) (kC ho44) hb); replace HO_9 := zA (Kd.N_elder' (zPN HO_9.out) (kC ho44) hb); replace HO_11 := zA (Kd.N_elder' (zPN HO_11.out) (kC ho44) hb); have HO242 := zA (kI (kF (Kd.R_newM (M := fun k_ => (w.heap.size ≤ k_)) ho44 (kP (zT HB.out GE206.out)) (fun k_ h_ => h_)) (kH (zP HO_5.out))) (kP (zT HB.out GE206.out))); replace HO_5 := zA (kE (zP HO_5.out) (kC ho44) hb); replace BK206 := zA (zB1 BK206.out hb); replace HB := zA (kQ (zT HB.out GE206.out) hb); clear hb ho44))
             go_loopg [14] k3 (fun kq v14 w' => ∃ (x13_4 : List Int) (x14_4 : Int), v14 = .int .i64 x14_4 ∧ Aside0 (spec_l06First.l3 kq a1 x5_3 x6_2 x9_2 x10_2 x11_3 x12_3 x13_4 x14_4 a0_0 l0_1 = some r) ∧ Aside0 (kq ≤ k3) ∧ Aside0 (Kd.R (Kd.int .i64) 2 w' w.heap.size (fun k_ => (w.heap.size ≤ k_) ∧ some k_ ≠ (v241 : Value).ownBlock) (.slice Ao42 x5_3.length co42) x5_3) ∧ Aside0 (Kd.N (Kd.slice 2 (Kd.int .i64)) 22 w' w.heap.size (fun k_ => (w.heap.size ≤ k_) ∧ some k_ ≠ ((.slice Ao42 x5_3.length co42) : Value).ownBlock ∧ some k_ ≠ (u9 : Value).ownBlock ∧ some k_ ≠ (u11 : Value).ownBlock ∧ some k_ ≠ (v241 : Value).ownBlock ∧ k_ ≠ gb206) u6 x6_2) ∧ Aside0 (Kd.N (Kd.slice 2 (Kd.int .i64)) 22 w' w.heap.size (fun k_ => (w.heap.size ≤ k_) ∧ some k_ ≠ ((.slice Ao42 x5_3.length co42) : Value).ownBlock ∧ some k_ ≠ (u6 : Value).ownBlock ∧ some k_ ≠ (u11 : Value).ownBlock ∧ some k_ ≠ (v241 : Value).ownBlock ∧ k_ ≠ gb206) u9 x9_2) ∧ Aside0 (Kd.N (Kd.slice 2 (Kd.int .i64)) 22 w' w.heap.size (fun k_ => (w.heap.size ≤ k_) ∧ some k_ ≠ ((.slice Ao42 x5_3.length co42) : Value).ownBlock ∧ some k_ ≠ (u6 : Value).ownBlock ∧ some k_ ≠ (u9 : Value).ownBlock ∧ some k_ ≠ (v241 : Value).ownBlock ∧ k_ ≠ gb206) u11 x11_3) ∧ Aside0 (Kd.R (Kd.int .i64) 2 w' w.heap.size (fun k_ => (w.heap.size ≤ k_) ∧ some k_ ≠ ((.slice Ao42 x5_3.length co42) : Value).ownBlock) v241 x13_4) ∧ Aside0 (w'.heap[gb206]? = some (.cells #[.int .i64 a0_0, (.slice A0_1 l0_1.length c0_1)] 29 (0, 0))) ∧ Aside0 (Below w.heap.size w w'))
             case atStart => exact ⟨(y240), (1), zs, H', ⟨Nat.le_refl _⟩, ⟨zP HO_5.out⟩, ⟨by (with_reducible repeat (first | apply Kd.N_alloc | apply Kd.N_drewN | apply Kd.N_drew)); exact Kd.N_mono HO_6.out (fun _ hk => ⟨hk.1.1, ⟨hk.1.2.1, ⟨hk.1.2.2.1, ⟨hk.1.2.2.2.1, ⟨hk.2, hk.1.2.2.2.2⟩⟩⟩⟩⟩)⟩, ⟨by (with_reducible repeat (first | apply Kd.N_alloc | apply Kd.N_drewN | apply Kd.N_drew)); exact Kd.N_mono HO_9.out (fun _ hk => ⟨hk.1.1, ⟨hk.1.2.1, ⟨hk.1.2.2.1, ⟨hk.1.2.2.2.1, ⟨hk.2, hk.1.2.2.2.2⟩⟩⟩⟩⟩)⟩, ⟨by (with_reducible repeat (first | apply Kd.N_alloc | apply Kd.N_drewN | apply Kd.N_drew)); exact Kd.N_mono HO_11.out (fun _ hk => ⟨hk.1.1, ⟨hk.1.2.1, ⟨hk.1.2.2.1, ⟨hk.1.2.2.2.1, ⟨hk.2, hk.1.2.2.2.2⟩⟩⟩⟩⟩)⟩, ⟨zPM HO242.out (fun _ hk => ⟨hk.1.1, hk.2⟩)⟩, ⟨zR BK206.out⟩, ⟨zT HB.out GE206.out⟩⟩
             case round =>
              clear H'
              try clear c1
              try clear hx1
              try clear qi1
              try clear c2
              try clear hx2
              try clear c3
              try clear c4
              try clear c9
              try clear c10
              try clear c11
              try clear c12
              try clear c13
              try clear hx14
              try clear qi14
              try clear hf14
              try clear c15
              try clear c22
              try clear hx22
              try clear c28
              try clear c29
              try clear c36
              try clear c37
              try clear c39
              try clear c40
              try clear c41
              try clear hcz5_0
              try clear hcz5_1
              try clear hfz5_0
              try clear hfz5_1
              try clear hx14_0
              try clear hx223_0
              obtain ⟨x13_4, x14_4, rfl, HA, HK4, HO_5, HO_6, HO_9, HO_11, HO_13, BK206, HB⟩ := hrel
              cases gk with
              | zero => exact absurd HA.out (by simp [spec_l06First.l3])
              | succ k4 =>
               have H := HA.out
               clear HA
               simp only [spec_l06First.l3] at H
               by_cases c45 : x14_4 < (x5_3.length : Int)
               ·rw [if_pos c45] at H
                have c45b0 : decide (x14_4 < (x5_3.length : Int)) = true := decide_eq_true c45
                clear c45
                by_cases c46 : 0 ≤ x14_4
                ·rw [if_pos c46] at H
                 have c46b0 : decide (0 ≤ x14_4) = true := decide_eq_true c46
                 clear c46
                 obtain ⟨t247, A47, H⟩ := zb H
                 try dsimp only at H
                 by_cases c48 : (wrap64 (x12_3 - t247)) < 0
                 ·rw [if_pos c48] at H
                  have c48b0 : decide ((wrap64 (x12_3 - t247)) < 0) = true := decide_eq_true c48
                  clear c48
                  have H' := zA H
                  clear H
                  have p246 : 0 ≤ (x14_4 : Int) := zd
                  have q246 : x14_4 < (x5_3.length : Int) := zd
                  obtain ⟨ad246, e246, hx246_0⟩ := Kd.at_int (kB HO_5.out).2.2 x14_4 p246 q246
                  cases e246
                  replace p246 := eq_true p246
                  replace q246 := eq_true q246
                  go_wp2_with (first | (refine zO (some 68) Tryd.func57 #[.int .i64 (rd x5_3 x14_4)] ?_; (with_reducible refine (spec_l01Bits.calls k4 (rd x5_3 x14_4) t247 _ A47.out).mono ?_); rintro e w' ⟨rfl, ⟨nd, rfl⟩⟩; refine ⟨_, rfl, ?_⟩))
                  go_roundg k4
                  case measure => have := HK1.out; have := HK2.out; have := HK3.out; have := HK4.out; omega
                  case rel => exact ⟨(x13_4), (wrap64 (x14_4 + 1)), zs, H', ⟨by have := HK1.out; have := HK2.out; have := HK3.out; have := HK4.out; omega⟩, ⟨zP HO_5.out⟩, ⟨zPN HO_6.out⟩, ⟨zPN HO_9.out⟩, ⟨zPN HO_11.out⟩, ⟨zP HO_13.out⟩, ⟨zR BK206.out⟩, ⟨zT HB.out GE206.out⟩⟩
                 rw [if_neg c48] at H
                 have c48b0 : decide ((wrap64 (x12_3 - t247)) < 0) = false := decide_eq_false c48
                 clear c48
                 obtain ⟨t249, A49, H⟩ := zb H
                 try dsimp only at H
                 have H' := zA H
                 clear H
                 have p246 : 0 ≤ (x14_4 : Int) := zd
                 have q246 : x14_4 < (x5_3.length : Int) := zd
                 obtain ⟨ad246, e246, hx246_0⟩ := Kd.at_int (kB HO_5.out).2.2 x14_4 p246 q246
                 cases e246
                 replace p246 := eq_true p246
                 replace q246 := eq_true q246
                 try go_wp2_with (first | (refine zO (some 68) Tryd.func57 #[.int .i64 (rd x5_3 x14_4)] ?_; (with_reducible refine (spec_l01Bits.calls k4 (rd x5_3 x14_4) t247 _ A47.out).mono ?_); rintro e w' ⟨rfl, ⟨nd, rfl⟩⟩; refine ⟨_, rfl, ?_⟩))
                 (try (rw [drewN_self wr]; generalize hq_ : World.drewN wr _ = wr; have n0_ : Aside0 (Kd.N (Kd.slice 2 (Kd.int .i64)) 22 wr w.heap.size (fun k_ => (w.heap.size ≤ k_) ∧ some k_ ≠ (v241 : Value).ownBlock ∧ some k_ ≠ (.slice (some ad246) x5_3.length co42 : Value).ownBlock ∧ some k_ ≠ (u6 : Value).ownBlock ∧ some k_ ≠ (u9 : Value).ownBlock ∧ k_ ≠ gb206) u11 x11_3) := ⟨by rw [← hq_]; exact (by (with_reducible repeat (first | apply Kd.N_alloc | apply Kd.N_drewN | apply Kd.N_drew)); exact Kd.N_mono HO_11.out (fun _ hk => ⟨hk.1, ⟨hk.2.2.2.2.1, ⟨hk.2.1, ⟨hk.2.2.1, ⟨hk.2.2.2.1, hk.2.2.2.2.2⟩⟩⟩⟩⟩))⟩; have n1_ : Aside0 (Kd.R (Kd.int .i64) 2 wr w.heap.size (fun k_ => (w.heap.size ≤ k_) ∧ some k_ ≠ (.slice (some ad246) x5_3.length co42 : Value).ownBlock) v241 x13_4) := ⟨by rw [← hq_]; exact (zP HO_13.out)⟩; have n2_ : Aside0 (Kd.R (Kd.int .i64) 2 wr w.heap.size (fun k_ => (w.heap.size ≤ k_) ∧ some k_ ≠ (v241 : Value).ownBlock) (.slice (some ad246) x5_3.length co42) x5_3) := ⟨by rw [← hq_]; exact (zP HO_5.out)⟩; have n3_ : Aside0 (Kd.N (Kd.slice 2 (Kd.int .i64)) 22 wr w.heap.size (fun k_ => (w.heap.size ≤ k_) ∧ some k_ ≠ (u11 : Value).ownBlock ∧ some k_ ≠ (v241 : Value).ownBlock ∧ some k_ ≠ (.slice (some ad246) x5_3.length co42 : Value).ownBlock ∧ some k_ ≠ (u9 : Value).ownBlock ∧ k_ ≠ gb206) u6 x6_2) := ⟨by rw [← hq_]; exact (by (with_reducible repeat (first | apply Kd.N_alloc | apply Kd.N_drewN | apply Kd.N_drew)); exact Kd.N_mono HO_6.out (fun _ hk => ⟨hk.1, ⟨hk.2.2.2.1, ⟨hk.2.2.2.2.1, ⟨hk.2.1, ⟨hk.2.2.1, hk.2.2.2.2.2⟩⟩⟩⟩⟩))⟩; have n4_ : Aside0 (Kd.N (Kd.slice 2 (Kd.int .i64)) 22 wr w.heap.size (fun k_ => (w.heap.size ≤ k_) ∧ some k_ ≠ (u11 : Value).ownBlock ∧ some k_ ≠ (v241 : Value).ownBlock ∧ some k_ ≠ (.slice (some ad246) x5_3.length co42 : Value).ownBlock ∧ some k_ ≠ (u6 : Value).ownBlock ∧ k_ ≠ gb206) u9 x9_2) := ⟨by rw [← hq_]; exact (by (with_reducible repeat (first | apply Kd.N_alloc | apply Kd.N_drewN | apply Kd.N_drew)); exact Kd.N_mono HO_9.out (fun _ hk => ⟨hk.1, ⟨hk.2.2.2.1, ⟨hk.2.2.2.2.1, ⟨hk.2.1, ⟨hk.2.2.1, hk.2.2.2.2.2⟩⟩⟩⟩⟩))⟩; have n5_ : Aside0 (wr.heap[gb206]? = some (.cells #[.int .i64 a0_0, .slice A0_1 l0_1.length c0_1] 29 (0, 0))) := ⟨by rw [← hq_]; exact (zR BK206.out)⟩; have n6_ : Aside0 (Below w.heap.size w wr) := ⟨by rw [← hq_]; exact (zT HB.out GE206.out)⟩; clear HO_11 HO_13 HO_5 HO_6 HO_9 BK206 HB hq_; have HO_11 := n0_; have HO_13 := n1_; have HO_5 := n2_; have HO_6 := n3_; have HO_9 := n4_; have BK206 := n5_; have HB := n6_; clear n0_ n1_ n2_ n3_ n4_ n5_ n6_))
                 replace HO_5 := zA (zH HO_5.out)
                 replace HO_6 := zA (Kd.N_drew HO_6.out)
                 replace HO_9 := zA (Kd.N_drew HO_9.out)
                 replace HO_11 := zA (Kd.N_drew HO_11.out)
                 replace HO_13 := zA (zH HO_13.out)
                 replace BK206 := zA (zK BK206.out)
                 replace HB := zA (zD HB.out)
                 have p248 : 0 ≤ (x14_4 : Int) := zd
                 have q248 : x14_4 < (x5_3.length : Int) := zd
                 obtain ⟨ad248, e248, hx248_0⟩ := Kd.at_int (kB HO_5.out).2.2 x14_4 p248 q248
                 obtain rfl : ad246 = ad248 := (by injection e248)
                 replace p248 := eq_true p248
                 replace q248 := eq_true q248
                 refine start_ (n := 7) (S := fun w' => w'.cell? ⟨gb206, 0, none⟩ = some (.int .i64 a0_0) ∧ w'.cell? ⟨gb206, 1, none⟩ = some (.slice A0_1 l0_1.length c0_1) ∧ w'.cell? (ad246.add (x14_4).toNat) = some (.int .i64 (rd x5_3 x14_4))) (ds := []) #[false, false, false, false, false, false, false] (by kernel_rfl) rfl rfl ⟨(kV BK206.out 0).trans rfl, (kV BK206.out 1).trans rfl, hx248_0⟩ (fun hHeld => ?_)
                 generalize wr.drew = w50 at HO_5 HO_6 HO_9 HO_11 HO_13 BK206 HB hx248_0 hHeld ⊢
                 refine pure_ (i := 1) (N := some 73) (v := ?_) (a' := ?_) #[false, true, false, false, false, false, false] rfl rfl (by kernel_rfl) (fun _ _ _ h => h) (Or.inl ⟨by rfl, ?_⟩) ?_ ?_
                 rotate_left
                 ·intro w'
                  go_simp
                  with_reducible rfl
                 rotate_left
                 ·simp only [Act.put, zL, zM, zN, i64_w, i32_w]
                  rfl
                 refine pure_ (i := 2) (N := some 74) (v := ?_) (a' := ?_) #[false, true, true, false, false, false, false] rfl rfl (by kernel_rfl) (fun _ _ _ h => h) (Or.inl ⟨by rfl, ?_⟩) ?_ ?_
                 rotate_left
                 ·intro w'
                  go_simp
                  with_reducible rfl
                 rotate_left
                 ·simp only [Act.put, zL, zM, zN, i64_w, i32_w]
                  rfl
                 refine pure_ (i := 3) (N := some 75) (v := ?_) (a' := ?_) #[false, true, true, true, false, false, false] rfl rfl (by kernel_rfl) (fun _ _ _ h => h) (Or.inl ⟨by rfl, ?_⟩) ?_ ?_
                 rotate_left
                 ·intro w'
                  go_simp
                  with_reducible rfl
                 rotate_left
                 ·simp only [Act.put, zL, zM, zN, i64_w, i32_w]
                  rfl
                 refine take_ (i := 0) (N := some 72) (v := ?_) (a' := ?_) #[true, true, true, true, false, false, false] rfl rfl (by kernel_rfl) (fun _ _ _ h => h) (Or.inl ⟨by rfl, ?_⟩) hHeld ?_ ?_
                 rotate_left
                 ·rintro w' ⟨s0, s1, s2⟩
                  go_simp
                  with_reducible rfl
                 rotate_left
                 ·simp only [Act.put, zL, zM, zN, i64_w, i32_w]
                  rfl
                 refine take_ (i := 4) (N := some 76) (v := ?_) (a' := ?_) #[true, true, true, true, true, false, false] rfl rfl (by kernel_rfl) (fun _ _ _ h => h) (Or.inl ⟨by rfl, ?_⟩) hHeld ?_ ?_
                 rotate_left
                 ·rintro w' ⟨s0, s1, s2⟩
                  go_simp
                  with_reducible rfl
                 rotate_left
                 ·simp only [Act.put, zL, zM, zN, i64_w, i32_w]
                  rfl
                 refine one_ (i := 5) (N := some 77) #[true, true, true, true, true, true, false] rfl rfl (by kernel_rfl) (by decide) (fun K hK => ?_)
                 refine goes_ Tryd.func58 (by kernel_rfl) rfl #[.agg #[.int .i64 a0_0, .slice A0_1 l0_1.length c0_1], .int .i64 (rd x5_3 x14_4)] (by rfl) rfl rfl zg ?_
                 with_reducible refine (spec_l06Reach.calls k4 a0_0 _ _ l0_1 (rd x5_3 x14_4) t249 _ ?side1 ?side2 A49.out).mono ?_
                 (case side1 => exact zS (kO HR0_1.out HB.out))
                 (case side2 => exact HC0_1.out)
                 rintro e w51 ⟨rfl, hb⟩
                 have HS2_ := (hb.cell (jG _ _ (hHeld.2.2))).trans (hHeld.2.2)
                 refine ⟨_, rfl, ?_⟩
                 replace HO_5 := zA (kL (zP HO_5.out) hb)
                 replace HO_6 := zA (kZ (zPN HO_6.out) hb)
                 replace HO_9 := zA (kZ (zPN HO_9.out) hb)
                 replace HO_11 := zA (kZ (zPN HO_11.out) hb)
                 replace HO_13 := zA (kL (zP HO_13.out) hb)
                 replace BK206 := zA (zB1 BK206.out hb)
                 replace HB := zA (kQ (zT HB.out GE206.out) hb)
                 (try clear hb)
                 (try clear hb2)
                 (try clear hk)
                 (try clear hi)
                 (try clear hgw)
                 refine hK.out _ _ ⟨(kV BK206.out 0).trans rfl, (kV BK206.out 1).trans rfl, HS2_⟩ (fun hHeld => ?_)
                 clear hK K
                 refine norm_ (a' := ?_) ?_ ?_
                 rotate_left
                 ·show Act.put _ (some 77) _ = _
                  simp only [Act.put, zL, zM, zN, i64_w, i32_w]
                  rfl
                 refine pure_ (i := 6) (N := some 16) (v := ?_) (a' := ?_) #[true, true, true, true, true, true, true] rfl rfl (by kernel_rfl) (fun _ _ _ h => h) (Or.inl ⟨by rfl, ?_⟩) ?_ ?_
                 rotate_left
                 ·intro w'
                  go_simp
                  with_reducible rfl
                 rotate_left
                 ·simp only [Act.put, zL, zM, zN, i64_w, i32_w]
                  rfl
                 refine done_ (by kernel_rfl) ?_
                 try go_wp2
                 go_loopg [17] k4 (fun kq v17 w' => ∃ (x13_5 : List Int) (x17_5 : Int), v17 = .int .i64 x17_5 ∧ Aside0 (spec_l06First.l4 kq a1 x5_3 x6_2 x9_2 x10_2 x11_3 x12_3 x13_5 x14_4 (wrap64 (x12_3 - t247)) t249 x17_5 a0_0 l0_1 = some r) ∧ Aside0 (kq ≤ k4) ∧ Aside0 (Kd.R (Kd.int .i64) 2 w' w.heap.size (fun k_ => (w.heap.size ≤ k_) ∧ some k_ ≠ (v241 : Value).ownBlock) (.slice (some ad246) x5_3.length co42) x5_3) ∧ Aside0 (Kd.N (Kd.slice 2 (Kd.int .i64)) 22 w' w.heap.size (fun k_ => (w.heap.size ≤ k_) ∧ some k_ ≠ ((.slice (some ad246) x5_3.length co42) : Value).ownBlock ∧ some k_ ≠ (u9 : Value).ownBlock ∧ some k_ ≠ (u11 : Value).ownBlock ∧ some k_ ≠ (v241 : Value).ownBlock ∧ k_ ≠ gb206) u6 x6_2) ∧ Aside0 (Kd.N (Kd.slice 2 (Kd.int .i64)) 22 w' w.heap.size (fun k_ => (w.heap.size ≤ k_) ∧ some k_ ≠ ((.slice (some ad246) x5_3.length co42) : Value).ownBlock ∧ some k_ ≠ (u6 : Value).ownBlock ∧ some k_ ≠ (u11 : Value).ownBlock ∧ some k_ ≠ (v241 : Value).ownBlock ∧ k_ ≠ gb206) u9 x9_2) ∧ Aside0 (Kd.N (Kd.slice 2 (Kd.int .i64)) 22 w' w.heap.size (fun k_ => (w.heap.size ≤ k_) ∧ some k_ ≠ ((.slice (some ad246) x5_3.length co42) : Value).ownBlock ∧ some k_ ≠ (u6 : Value).ownBlock ∧ some k_ ≠ (u9 : Value).ownBlock ∧ some k_ ≠ (v241 : Value).ownBlock ∧ k_ ≠ gb206) u11 x11_3) ∧ Aside0 (Kd.R (Kd.int .i64) 2 w' w.heap.size (fun k_ => (w.heap.size ≤ k_) ∧ some k_ ≠ ((.slice (some ad246) x5_3.length co42) : Value).ownBlock) v241 x13_5) ∧ Aside0 (w'.heap[gb206]? = some (.cells #[.int .i64 a0_0, (.slice A0_1 l0_1.length c0_1)] 29 (0, 0))) ∧ Aside0 (Below w.heap.size w w'))
                 case atStart => exact ⟨(x13_4), (0), zs, H', ⟨Nat.le_refl _⟩, ⟨zP HO_5.out⟩, ⟨Kd.N_mono (zPN HO_6.out) (fun _ hk => by simp only [ne_eq] at hk ⊢; obtain ⟨h1_, h2_, h3_, h4_, h5_, h6_⟩ := hk; exact ⟨h1_, by assumption, by assumption, by assumption, by assumption, by assumption⟩)⟩, ⟨Kd.N_mono (zPN HO_9.out) (fun _ hk => by simp only [ne_eq] at hk ⊢; obtain ⟨h1_, h2_, h3_, h4_, h5_, h6_⟩ := hk; exact ⟨h1_, by assumption, by assumption, by assumption, by assumption, by assumption⟩)⟩, ⟨Kd.N_mono (zPN HO_11.out) (fun _ hk => by simp only [ne_eq] at hk ⊢; obtain ⟨h1_, h2_, h3_, h4_, h5_, h6_⟩ := hk; exact ⟨h1_, by assumption, by assumption, by assumption, by assumption, by assumption⟩)⟩, ⟨zP HO_13.out⟩, ⟨zR BK206.out⟩, ⟨zT HB.out GE206.out⟩⟩
                 case round =>
                  clear H'
                  try clear c1
                  try clear hx1
                  try clear qi1
                  try clear c2
                  try clear hx2
                  try clear c3
                  try clear c4
                  try clear c5
                  try clear c9
                  try clear c10
                  try clear c11
                  try clear c12
                  try clear c13
                  try clear hx14
                  try clear qi14
                  try clear hf14
                  try clear c15
                  try clear c22
                  try clear hx22
                  try clear hx24
                  try clear c28
                  try clear c29
                  try clear c36
                  try clear c37
                  try clear c39
                  try clear c40
                  try clear c41
                  try clear c45
                  try clear c46
                  try clear c48
                  try clear hcz5_0
                  try clear hcz5_1
                  try clear hfz5_0
                  try clear hfz5_1
                  try clear hx14_0
                  try clear hx223_0
                  try clear hx246_0
                  try clear hx248_0
                  obtain ⟨x13_5, x17_5, rfl, HA, HK5, HO_5, HO_6, HO_9, HO_11, HO_13, BK206, HB⟩ := hrel
                  cases gk with
                  | zero => exact absurd HA.out (by simp [spec_l06First.l4])
                  | succ k5 =>
                   have H := HA.out
                   clear HA
                   simp only [spec_l06First.l4] at H
                   by_cases c52 : x17_5 < (x5_3.length : Int)
                   ·rw [if_pos c52] at H
                    have c52b0 : decide (x17_5 < (x5_3.length : Int)) = true := decide_eq_true c52
                    clear c52
                    by_cases c53 : 0 ≤ x17_5
                    ·rw [if_pos c53] at H
                     have c53b0 : decide (0 ≤ x17_5) = true := decide_eq_true c53
                     clear c53
                     by_cases c54 : (Go.bits .or .i64 (rd x5_3 x17_5) t249) = t249
                     ·rw [if_pos c54] at H
                      obtain ⟨c54b0, c54b1⟩ := zT1 c54
                      clear c54
                      by_cases c55 : x17_5 > 0
                      ·rw [if_pos c55] at H
                       have c55b0 : decide (0 < x17_5) = true := decide_eq_true c55
                       clear c55
                       by_cases c56 : 0 ≤ x14_4
                       ·rw [if_pos c56] at H
                        have c56b0 : decide (0 ≤ x14_4) = true := decide_eq_true c56
                        clear c56
                        by_cases c57 : x14_4 < (x13_5.length : Int)
                        ·rw [if_pos c57] at H
                         have c57b0 : decide (x14_4 < (x13_5.length : Int)) = true := decide_eq_true c57
                         clear c57
                         obtain ⟨ji58, hji58⟩ : ∃ j_ : Int, (wrap64 (x12_3 - t247)) = j_ := ⟨_, rfl⟩
                         replace H : (if 0 ≤ (ji58) then (if (ji58) < (x6_2.length : Int) then (if x17_5 < ((rd_L1 x6_2 (ji58)).length : Int) then (spec_l06First.l4 k5 a1 x5_3 x6_2 x9_2 x10_2 x11_3 x12_3 (x13_5.set (x14_4 : Int).toNat (wrap64 ((rd x13_5 x14_4) + (rd (rd_L1 x6_2 (ji58)) x17_5)))) x14_4 (ji58) t249 (wrap64 (x17_5 + 1)) a0_0 l0_1) else (none)) else (none)) else (none)) = some r := by first | (rw [hji58] at H; exact H) | (simp only [hji58] at H ⊢; exact H)
                         (try rw [hji58] at c48b0)
                         have hji58w : (IntKind.i64.wrap (x12_3 - t247)) = ji58 := (i64_w _).trans hji58
                         by_cases c59 : 0 ≤ (ji58)
                         ·rw [if_pos c59] at H
                          have c59b0 : decide (0 ≤ (ji58)) = true := decide_eq_true c59
                          clear c59
                          by_cases c60 : (ji58) < (x6_2.length : Int)
                          ·rw [if_pos c60] at H
                           have c60b0 : decide ((ji58) < (x6_2.length : Int)) = true := decide_eq_true c60
                           clear c60
                           by_cases c61 : x17_5 < ((rd_L1 x6_2 (ji58)).length : Int)
                           ·rw [if_pos c61] at H
                            have c61b0 : decide (x17_5 < ((rd_L1 x6_2 (ji58)).length : Int)) = true := decide_eq_true c61
                            clear c61
                            obtain ⟨y254, hy254⟩ : ∃ y_ : List Int, y_ = (x13_5.set (x14_4 : Int).toNat (wrap64 ((rd x13_5 x14_4) + (rd (rd_L1 x6_2 (ji58)) x17_5)))) := ⟨_, rfl⟩
                            replace H : (spec_l06First.l4 k5 a1 x5_3 x6_2 x9_2 x10_2 x11_3 x12_3 y254 x14_4 (ji58) t249 (wrap64 (x17_5 + 1)) a0_0 l0_1) = some r := zy hy254 H
                            have Ny254 := zA hy254
                            clear hy254
                            have H' := zA H
                            clear H
                            have p250 : 0 ≤ (x17_5 : Int) := zd
                            have q250 : x17_5 < (x5_3.length : Int) := zd
                            obtain ⟨ad250, e250, hx250_0⟩ := Kd.at_int (kB HO_5.out).2.2 x17_5 p250 q250
                            obtain rfl : ad246 = ad250 := (by injection e250)
                            replace p250 := eq_true p250
                            replace q250 := eq_true q250
                            try go_wp2
                            replace HO_5 := zA (zH HO_5.out)
                            replace HO_6 := zA (Kd.N_drew HO_6.out)
                            replace HO_9 := zA (Kd.N_drew HO_9.out)
                            replace HO_11 := zA (Kd.N_drew HO_11.out)
                            replace HO_13 := zA (zH HO_13.out)
                            replace BK206 := zA (zK BK206.out)
                            replace HB := zA (zD HB.out)
                            obtain ⟨Ao64, co64, eo64⟩ := kM HO_13.out
                            (first | subst eo64 | (injection eo64 with f1_ f2_ f3_; have f4_ := f1_.symm; have f5_ := f3_.symm; clear f1_ f2_ f3_; subst f4_; subst f5_))
                            have p251 : 0 ≤ (x14_4 : Int) := zd
                            have q251 : x14_4 < (x13_5.length : Int) := zd
                            obtain ⟨ad251, e251, hx251_0⟩ := Kd.at_int (kB HO_13.out).2.2 x14_4 p251 q251
                            cases e251
                            replace p251 := eq_true p251
                            replace q251 := eq_true q251
                            obtain ⟨Ao65, co65, eo65⟩ := Kd.N_slice HO_6.out
                            (first | subst eo65 | (injection eo65 with f1_ f2_ f3_; have f4_ := f1_.symm; have f5_ := f3_.symm; clear f1_ f2_ f3_; subst f4_; subst f5_))
                            have p252 : 0 ≤ ((ji58) : Int) := zd
                            have q252 : (ji58) < (x6_2.length : Int) := zd
                            obtain ⟨ad252, A252_0, c252_0, e252, hx252_0, hl252_0, hi252_0⟩ := at_L1 (Kd.N_reads' HO_6.out).2.2 (ji58) p252 q252
                            cases e252
                            obtain ⟨ce252, hce252, hMe252, hcc252⟩ := Kd.N_get HO_6.out [] (ji58) p252 (by first | exact q252 | exact zd | (have e_ := (Kd.N_reads' HO_6.out).1; omega))
                            obtain ⟨ua252_0, uc252_0, rfl, ul252_0, ge252_0⟩ := Kd.FK_slice_open hMe252
                            have hv252_0 := hcc252 0 _ rfl
                            rw [Nat.add_zero, show ((Kd.slice 2 (Kd.int .i64))).sz = 1 from rfl, Nat.mul_one] at hv252_0
                            replace hv252_0 := Option.some.inj (hv252_0.symm.trans hx252_0)
                            injection hv252_0 with hva_ hvn_ hvc_
                            rw [hva_] at ge252_0
                            rw [hvc_] at ul252_0
                            have HL252_0 := zA (show Kd.V (Kd.int .i64) 2 _ w.heap.size _ _ (rd_L1 x6_2 (ji58)) from Kd.V_mk ul252_0 ge252_0)
                            clear hva_ hvn_ hvc_ ge252_0 ul252_0 hcc252 hce252
                            have HR252_0 := zA hi252_0
                            have HC252_0 := zA hl252_0
                            clear hi252_0 hl252_0
                            replace p252 := eq_true p252
                            replace q252 := eq_true q252
                            have p253 : 0 ≤ (x17_5 : Int) := zd
                            have q253 : x17_5 < ((rd_L1 x6_2 (ji58)).length : Int) := zd
                            obtain ⟨ad253, e253, hx253_0⟩ := Kd.at_int (by repeat (first | (with_reducible exact HR252_0.out) | (with_reducible refine Kd.C_alloc ?_ _) | (with_reducible refine Kd.C_drewN ?_ _) | (with_reducible refine Kd.C_drew ?_) | exact HR252_0.out)) x17_5 p253 q253
                            cases e253
                            replace p253 := eq_true p253
                            replace q253 := eq_true q253
                            have p62 : 0 ≤ (x14_4 : Int) := zd
                            have q62 : (x14_4 : Int) < ((x13_5.length : Int) : Int) := zd
                            obtain ⟨go62, co62, eo62, gb62, gl62, cl62, HG62⟩ := Kd.R_form HO_13.out (by omega)
                            (first | cases eo62 | (injection eo62 with ea_ en_ ec_; (first | subst ea_ | (injection ea_ with ea_; subst ea_)); subst ec_; clear en_))
                            have GB62 := zA gb62
                            have GG62 := zA HG62
                            clear gb62 gl62 HG62
                            (first | simp only [add_plain] at hx251_0 | skip)
                            obtain ⟨hx62_0, hf62_0⟩ := Kd.R_celln 0 HO_13.out (x14_4 : Int) p62 q62
                            replace p62 := eq_true p62
                            replace q62 := eq_true q62
                            have HP66 := Kd.R_putn HO_13.out (x14_4 : Int) (wrap64 ((rd x13_5 x14_4) + (rd (rd_L1 x6_2 (ji58)) x17_5)))
                            rw [← Ny254.out] at HP66
                            have HQ66 := zA HP66
                            clear HP66
                            refine start_ (n := 16) (S := fun w' => w'.cell? ⟨go62, (x14_4).toNat, none⟩ = some (.int .i64 (rd x13_5 x14_4)) ∧ w'.cell? (ad252.add ((ji58)).toNat) = some (.slice (some ad253) (rd_L1 x6_2 (ji58)).length c252_0) ∧ w'.cell? (ad253.add (x17_5).toNat) = some (.int .i64 (rd (rd_L1 x6_2 (ji58)) x17_5))) (ds := [15]) #[false, false, false, false, false, false, false, false, false, false, false, false, false, false, false, false] (by kernel_rfl) rfl rfl ⟨hx251_0, hx252_0, hx253_0⟩ (fun hHeld => ?_); refine with_tabW spec_l06First.tab29 spec_l06First.bits29 (fun HT_ HW_ => ?_)
                            generalize wr.drew = w63 at HO_5 HO_6 HO_9 HO_11 HO_13 BK206 HB GG62 HL252_0 HQ66 HR252_0 hf62_0 hx251_0 hx252_0 hx253_0 hx62_0 hHeld ⊢
                            refine zp 0 (some 100) #[true, false, false, false, false, false, false, false, false, false, false, false, false, false, false, false] HT_.out ?_
                            refine zp 1 (some 101) #[true, true, false, false, false, false, false, false, false, false, false, false, false, false, false, false] HT_.out ?_
                            refine zp 2 (some 102) #[true, true, true, false, false, false, false, false, false, false, false, false, false, false, false, false] HT_.out ?_
                            refine zp 3 (some 103) #[true, true, true, true, false, false, false, false, false, false, false, false, false, false, false, false] HT_.out ?_
                            refine zp 4 (some 104) #[true, true, true, true, true, false, false, false, false, false, false, false, false, false, false, false] HT_.out ?_
                            refine zp 6 (some 106) #[true, true, true, true, true, false, true, false, false, false, false, false, false, false, false, false] HT_.out ?_
                            refine zp 7 (some 107) #[true, true, true, true, true, false, true, true, false, false, false, false, false, false, false, false] HT_.out ?_
                            refine zp 8 (some 108) #[true, true, true, true, true, false, true, true, true, false, false, false, false, false, false, false] HT_.out ?_
                            refine zp 10 (some 110) #[true, true, true, true, true, false, true, true, true, false, true, false, false, false, false, false] HT_.out ?_
                            refine ze 5 (some 105) #[true, true, true, true, true, true, true, true, true, false, true, false, false, false, false, false] HT_.out HW_.out hHeld ?_
                            refine ze 9 (some 109) #[true, true, true, true, true, true, true, true, true, true, true, false, false, false, false, false] HT_.out HW_.out hHeld ?_
                            refine zp 11 (some 111) #[true, true, true, true, true, true, true, true, true, true, true, true, false, false, false, false] HT_.out ?_
                            refine ze 12 (some 112) #[true, true, true, true, true, true, true, true, true, true, true, true, true, false, false, false] HT_.out HW_.out hHeld ?_
                            refine zp 13 (some 113) #[true, true, true, true, true, true, true, true, true, true, true, true, true, true, false, false] HT_.out ?_
                            refine zp 14 (some 114) #[true, true, true, true, true, true, true, true, true, true, true, true, true, true, true, false] HT_.out ?_
                            refine last_ (i := 15) (N := none) #[true, true, true, true, true, true, true, true, true, true, true, true, true, true, true, true] rfl rfl (one_of HT_.out (by kernel_rfl)) (by decide) (fun K hK => ?_)
                            refine skip_ (w1 := ?_) (by rfl) rfl ?_ ?_
                            rotate_left
                            ·go_simp
                             rfl
                            refine hK.out _ _ ?_
                            clear hK K
                            refine done_ (done_of HT_.out (by kernel_rfl)) ?_
                            try go_wp2
                            subst hji58
                            go_roundg k5
                            case measure => have := HK1.out; have := HK2.out; have := HK3.out; have := HK4.out; have := HK5.out; omega
                            case rel => exact ⟨(y254), (wrap64 (x17_5 + 1)), zs, H', ⟨by have := HK1.out; have := HK2.out; have := HK3.out; have := HK4.out; have := HK5.out; omega⟩, ⟨by (with_reducible repeat (first | apply zF | apply zG | apply zH)); exact kA (kY (p := ⟨go62, (x14_4 : Int).toNat, none⟩) (kA HO_5.out (fun k_ hk => (⟨hk, fun e_ => hk.2 (by rw [e_]; rfl)⟩ : _ ∧ k_ ≠ go62))) (fun _ hk => hk.2) (.int .i64 (wrap64 ((rd x13_5 x14_4) + (rd (rd_L1 x6_2 (wrap64 (x12_3 - t247))) x17_5))))) (fun _ hk => ⟨hk.1.1, hk.1.2⟩)⟩, ⟨by (with_reducible repeat (first | apply Kd.N_alloc | apply Kd.N_drewN | apply Kd.N_drew)); exact Kd.N_mono (Kd.N_far (p := ⟨go62, (x14_4 : Int).toNat, none⟩) (Kd.N_mono HO_6.out (fun k_ hk => (⟨hk, fun e_ => hk.2.2.2.2.1 (by rw [e_]; rfl)⟩ : _ ∧ k_ ≠ go62))) (fun _ hk => hk.2) (.int .i64 (wrap64 ((rd x13_5 x14_4) + (rd (rd_L1 x6_2 (wrap64 (x12_3 - t247))) x17_5))))) (fun _ hk => ⟨hk.1.1, ⟨hk.1.2.1, ⟨hk.1.2.2.1, ⟨hk.1.2.2.2.1, ⟨hk.1.2.2.2.2.1, hk.1.2.2.2.2.2⟩⟩⟩⟩⟩)⟩, ⟨by (with_reducible repeat (first | apply Kd.N_alloc | apply Kd.N_drewN | apply Kd.N_drew)); exact Kd.N_mono (Kd.N_far (p := ⟨go62, (x14_4 : Int).toNat, none⟩) (Kd.N_mono HO_9.out (fun k_ hk => (⟨hk, fun e_ => hk.2.2.2.2.1 (by rw [e_]; rfl)⟩ : _ ∧ k_ ≠ go62))) (fun _ hk => hk.2) (.int .i64 (wrap64 ((rd x13_5 x14_4) + (rd (rd_L1 x6_2 (wrap64 (x12_3 - t247))) x17_5))))) (fun _ hk => ⟨hk.1.1, ⟨hk.1.2.1, ⟨hk.1.2.2.1, ⟨hk.1.2.2.2.1, ⟨hk.1.2.2.2.2.1, hk.1.2.2.2.2.2⟩⟩⟩⟩⟩)⟩, ⟨by (with_reducible repeat (first | apply Kd.N_alloc | apply Kd.N_drewN | apply Kd.N_drew)); exact Kd.N_mono (Kd.N_far (p := ⟨go62, (x14_4 : Int).toNat, none⟩) (Kd.N_mono HO_11.out (fun k_ hk => (⟨hk, fun e_ => hk.2.2.2.2.1 (by rw [e_]; rfl)⟩ : _ ∧ k_ ≠ go62))) (fun _ hk => hk.2) (.int .i64 (wrap64 ((rd x13_5 x14_4) + (rd (rd_L1 x6_2 (wrap64 (x12_3 - t247))) x17_5))))) (fun _ hk => ⟨hk.1.1, ⟨hk.1.2.1, ⟨hk.1.2.2.1, ⟨hk.1.2.2.2.1, ⟨hk.1.2.2.2.2.1, hk.1.2.2.2.2.2⟩⟩⟩⟩⟩)⟩, ⟨zP HQ66.out⟩, ⟨by (with_reducible repeat (first | refine zJ ?_ _ | refine zK ?_ | refine zI ?_ _)); refine blk_far ?_ (by have h_ := Kd.R_ne HO_13.out BK206.out (by decide); intro e_; exact h_ (by rw [e_]; rfl)) _; (with_reducible repeat (first | refine zJ ?_ _ | refine zK ?_ | refine zI ?_ _)); exact BK206.out⟩, ⟨zV HB.out GB62.out GE206.out⟩⟩
                           rw [if_neg c61] at H
                           exact absurd H (by simp)
                          rw [if_neg c60] at H
                          exact absurd H (by simp)
                         rw [if_neg c59] at H
                         exact absurd H (by simp)
                        rw [if_neg c57] at H
                        exact absurd H (by simp)
                       rw [if_neg c56] at H
                       exact absurd H (by simp)
                      rw [if_neg c55] at H
                      have c55b0 : decide (0 < x17_5) = false := decide_eq_false c55
                      clear c55
                      by_cases c67 : x10_2 = 1
                      ·rw [if_pos c67] at H
                       obtain ⟨c67b0, c67b1⟩ := zT1 c67
                       clear c67
                       by_cases c68 : 0 ≤ x14_4
                       ·rw [if_pos c68] at H
                        have c68b0 : decide (0 ≤ x14_4) = true := decide_eq_true c68
                        clear c68
                        by_cases c69 : x14_4 < (x13_5.length : Int)
                        ·rw [if_pos c69] at H
                         have c69b0 : decide (x14_4 < (x13_5.length : Int)) = true := decide_eq_true c69
                         clear c69
                         obtain ⟨ji70, hji70⟩ : ∃ j_ : Int, (wrap64 (x12_3 - t247)) = j_ := ⟨_, rfl⟩
                         replace H : (if 0 ≤ (ji70) then (if (ji70) < (x6_2.length : Int) then (if x17_5 < ((rd_L1 x6_2 (ji70)).length : Int) then (spec_l06First.l4 k5 a1 x5_3 x6_2 x9_2 x10_2 x11_3 x12_3 (x13_5.set (x14_4 : Int).toNat (wrap64 ((rd x13_5 x14_4) + (rd (rd_L1 x6_2 (ji70)) x17_5)))) x14_4 (ji70) t249 (wrap64 (x17_5 + 1)) a0_0 l0_1) else (none)) else (none)) else (none)) = some r := by first | (rw [hji70] at H; exact H) | (simp only [hji70] at H ⊢; exact H)
                         (try rw [hji70] at c48b0)
                         have hji70w : (IntKind.i64.wrap (x12_3 - t247)) = ji70 := (i64_w _).trans hji70
                         by_cases c71 : 0 ≤ (ji70)
                         ·rw [if_pos c71] at H
                          have c71b0 : decide (0 ≤ (ji70)) = true := decide_eq_true c71
                          clear c71
                          by_cases c72 : (ji70) < (x6_2.length : Int)
                          ·rw [if_pos c72] at H
                           have c72b0 : decide ((ji70) < (x6_2.length : Int)) = true := decide_eq_true c72
                           clear c72
                           by_cases c73 : x17_5 < ((rd_L1 x6_2 (ji70)).length : Int)
                           ·rw [if_pos c73] at H
                            have c73b0 : decide (x17_5 < ((rd_L1 x6_2 (ji70)).length : Int)) = true := decide_eq_true c73
                            clear c73
                            obtain ⟨y258, hy258⟩ : ∃ y_ : List Int, y_ = (x13_5.set (x14_4 : Int).toNat (wrap64 ((rd x13_5 x14_4) + (rd (rd_L1 x6_2 (ji70)) x17_5)))) := ⟨_, rfl⟩
                            replace H : (spec_l06First.l4 k5 a1 x5_3 x6_2 x9_2 x10_2 x11_3 x12_3 y258 x14_4 (ji70) t249 (wrap64 (x17_5 + 1)) a0_0 l0_1) = some r := zy hy258 H
                            have Ny258 := zA hy258
                            clear hy258
                            have H' := zA H
                            clear H
                            have p250 : 0 ≤ (x17_5 : Int) := zd
                            have q250 : x17_5 < (x5_3.length : Int) := zd
                            obtain ⟨ad250, e250, hx250_0⟩ := Kd.at_int (kB HO_5.out).2.2 x17_5 p250 q250
                            obtain rfl : ad246 = ad250 := (by injection e250)
                            replace p250 := eq_true p250
                            replace q250 := eq_true q250
                            try go_wp2
                            replace HO_5 := zA (zH HO_5.out)
                            replace HO_6 := zA (Kd.N_drew HO_6.out)
                            replace HO_9 := zA (Kd.N_drew HO_9.out)
                            replace HO_11 := zA (Kd.N_drew HO_11.out)
                            replace HO_13 := zA (zH HO_13.out)
                            replace BK206 := zA (zK BK206.out)
                            replace HB := zA (zD HB.out)
                            obtain ⟨Ao76, co76, eo76⟩ := kM HO_13.out
                            (first | subst eo76 | (injection eo76 with f1_ f2_ f3_; have f4_ := f1_.symm; have f5_ := f3_.symm; clear f1_ f2_ f3_; subst f4_; subst f5_))
                            have p255 : 0 ≤ (x14_4 : Int) := zd
                            have q255 : x14_4 < (x13_5.length : Int) := zd
                            obtain ⟨ad255, e255, hx255_0⟩ := Kd.at_int (kB HO_13.out).2.2 x14_4 p255 q255
                            cases e255
                            replace p255 := eq_true p255
                            replace q255 := eq_true q255
                            obtain ⟨Ao77, co77, eo77⟩ := Kd.N_slice HO_6.out
                            (first | subst eo77 | (injection eo77 with f1_ f2_ f3_; have f4_ := f1_.symm; have f5_ := f3_.symm; clear f1_ f2_ f3_; subst f4_; subst f5_))
                            have p256 : 0 ≤ ((ji70) : Int) := zd
                            have q256 : (ji70) < (x6_2.length : Int) := zd
                            obtain ⟨ad256, A256_0, c256_0, e256, hx256_0, hl256_0, hi256_0⟩ := at_L1 (Kd.N_reads' HO_6.out).2.2 (ji70) p256 q256
                            cases e256
                            obtain ⟨ce256, hce256, hMe256, hcc256⟩ := Kd.N_get HO_6.out [] (ji70) p256 (by first | exact q256 | exact zd | (have e_ := (Kd.N_reads' HO_6.out).1; omega))
                            obtain ⟨ua256_0, uc256_0, rfl, ul256_0, ge256_0⟩ := Kd.FK_slice_open hMe256
                            have hv256_0 := hcc256 0 _ rfl
                            rw [Nat.add_zero, show ((Kd.slice 2 (Kd.int .i64))).sz = 1 from rfl, Nat.mul_one] at hv256_0
                            replace hv256_0 := Option.some.inj (hv256_0.symm.trans hx256_0)
                            injection hv256_0 with hva_ hvn_ hvc_
                            rw [hva_] at ge256_0
                            rw [hvc_] at ul256_0
                            have HL256_0 := zA (show Kd.V (Kd.int .i64) 2 _ w.heap.size _ _ (rd_L1 x6_2 (ji70)) from Kd.V_mk ul256_0 ge256_0)
                            clear hva_ hvn_ hvc_ ge256_0 ul256_0 hcc256 hce256
                            have HR256_0 := zA hi256_0
                            have HC256_0 := zA hl256_0
                            clear hi256_0 hl256_0
                            replace p256 := eq_true p256
                            replace q256 := eq_true q256
                            have p257 : 0 ≤ (x17_5 : Int) := zd
                            have q257 : x17_5 < ((rd_L1 x6_2 (ji70)).length : Int) := zd
                            obtain ⟨ad257, e257, hx257_0⟩ := Kd.at_int (by repeat (first | (with_reducible exact HR256_0.out) | (with_reducible refine Kd.C_alloc ?_ _) | (with_reducible refine Kd.C_drewN ?_ _) | (with_reducible refine Kd.C_drew ?_) | exact HR256_0.out)) x17_5 p257 q257
                            cases e257
                            replace p257 := eq_true p257
                            replace q257 := eq_true q257
                            have p74 : 0 ≤ (x14_4 : Int) := zd
                            have q74 : (x14_4 : Int) < ((x13_5.length : Int) : Int) := zd
                            obtain ⟨go74, co74, eo74, gb74, gl74, cl74, HG74⟩ := Kd.R_form HO_13.out (by omega)
                            (first | cases eo74 | (injection eo74 with ea_ en_ ec_; (first | subst ea_ | (injection ea_ with ea_; subst ea_)); subst ec_; clear en_))
                            have GB74 := zA gb74
                            have GG74 := zA HG74
                            clear gb74 gl74 HG74
                            (first | simp only [add_plain] at hx255_0 | skip)
                            obtain ⟨hx74_0, hf74_0⟩ := Kd.R_celln 0 HO_13.out (x14_4 : Int) p74 q74
                            replace p74 := eq_true p74
                            replace q74 := eq_true q74
                            have HP78 := Kd.R_putn HO_13.out (x14_4 : Int) (wrap64 ((rd x13_5 x14_4) + (rd (rd_L1 x6_2 (ji70)) x17_5)))
                            rw [← Ny258.out] at HP78
                            have HQ78 := zA HP78
                            clear HP78
                            refine start_ (n := 16) (S := fun w' => w'.cell? ⟨go74, (x14_4).toNat, none⟩ = some (.int .i64 (rd x13_5 x14_4)) ∧ w'.cell? (ad256.add ((ji70)).toNat) = some (.slice (some ad257) (rd_L1 x6_2 (ji70)).length c256_0) ∧ w'.cell? (ad257.add (x17_5).toNat) = some (.int .i64 (rd (rd_L1 x6_2 (ji70)) x17_5))) (ds := [15]) #[false, false, false, false, false, false, false, false, false, false, false, false, false, false, false, false] (by kernel_rfl) rfl rfl ⟨hx255_0, hx256_0, hx257_0⟩ (fun hHeld => ?_); refine with_tabW spec_l06First.tab29 spec_l06First.bits29 (fun HT_ HW_ => ?_)
                            generalize wr.drew = w75 at HO_5 HO_6 HO_9 HO_11 HO_13 BK206 HB GG74 HL256_0 HQ78 HR256_0 hf74_0 hx255_0 hx256_0 hx257_0 hx74_0 hHeld ⊢
                            refine zp 0 (some 100) #[true, false, false, false, false, false, false, false, false, false, false, false, false, false, false, false] HT_.out ?_
                            refine zp 1 (some 101) #[true, true, false, false, false, false, false, false, false, false, false, false, false, false, false, false] HT_.out ?_
                            refine zp 2 (some 102) #[true, true, true, false, false, false, false, false, false, false, false, false, false, false, false, false] HT_.out ?_
                            refine zp 3 (some 103) #[true, true, true, true, false, false, false, false, false, false, false, false, false, false, false, false] HT_.out ?_
                            refine zp 4 (some 104) #[true, true, true, true, true, false, false, false, false, false, false, false, false, false, false, false] HT_.out ?_
                            refine zp 6 (some 106) #[true, true, true, true, true, false, true, false, false, false, false, false, false, false, false, false] HT_.out ?_
                            refine zp 7 (some 107) #[true, true, true, true, true, false, true, true, false, false, false, false, false, false, false, false] HT_.out ?_
                            refine zp 8 (some 108) #[true, true, true, true, true, false, true, true, true, false, false, false, false, false, false, false] HT_.out ?_
                            refine zp 10 (some 110) #[true, true, true, true, true, false, true, true, true, false, true, false, false, false, false, false] HT_.out ?_
                            refine ze 5 (some 105) #[true, true, true, true, true, true, true, true, true, false, true, false, false, false, false, false] HT_.out HW_.out hHeld ?_
                            refine ze 9 (some 109) #[true, true, true, true, true, true, true, true, true, true, true, false, false, false, false, false] HT_.out HW_.out hHeld ?_
                            refine zp 11 (some 111) #[true, true, true, true, true, true, true, true, true, true, true, true, false, false, false, false] HT_.out ?_
                            refine ze 12 (some 112) #[true, true, true, true, true, true, true, true, true, true, true, true, true, false, false, false] HT_.out HW_.out hHeld ?_
                            refine zp 13 (some 113) #[true, true, true, true, true, true, true, true, true, true, true, true, true, true, false, false] HT_.out ?_
                            refine zp 14 (some 114) #[true, true, true, true, true, true, true, true, true, true, true, true, true, true, true, false] HT_.out ?_
                            refine last_ (i := 15) (N := none) #[true, true, true, true, true, true, true, true, true, true, true, true, true, true, true, true] rfl rfl (one_of HT_.out (by kernel_rfl)) (by decide) (fun K hK => ?_)
                            refine skip_ (w1 := ?_) (by rfl) rfl ?_ ?_
                            rotate_left
                            ·go_simp
                             rfl
                            refine hK.out _ _ ?_
                            clear hK K
                            refine done_ (done_of HT_.out (by kernel_rfl)) ?_
                            try go_wp2
                            subst hji70
                            go_roundg k5
                            case measure => have := HK1.out; have := HK2.out; have := HK3.out; have := HK4.out; have := HK5.out; omega
                            case rel => exact ⟨(y258), (wrap64 (x17_5 + 1)), zs, H', ⟨by have := HK1.out; have := HK2.out; have := HK3.out; have := HK4.out; have := HK5.out; omega⟩, ⟨by (with_reducible repeat (first | apply zF | apply zG | apply zH)); exact kA (kY (p := ⟨go74, (x14_4 : Int).toNat, none⟩) (kA HO_5.out (fun k_ hk => (⟨hk, fun e_ => hk.2 (by rw [e_]; rfl)⟩ : _ ∧ k_ ≠ go74))) (fun _ hk => hk.2) (.int .i64 (wrap64 ((rd x13_5 x14_4) + (rd (rd_L1 x6_2 (wrap64 (x12_3 - t247))) x17_5))))) (fun _ hk => ⟨hk.1.1, hk.1.2⟩)⟩, ⟨by (with_reducible repeat (first | apply Kd.N_alloc | apply Kd.N_drewN | apply Kd.N_drew)); exact Kd.N_mono (Kd.N_far (p := ⟨go74, (x14_4 : Int).toNat, none⟩) (Kd.N_mono HO_6.out (fun k_ hk => (⟨hk, fun e_ => hk.2.2.2.2.1 (by rw [e_]; rfl)⟩ : _ ∧ k_ ≠ go74))) (fun _ hk => hk.2) (.int .i64 (wrap64 ((rd x13_5 x14_4) + (rd (rd_L1 x6_2 (wrap64 (x12_3 - t247))) x17_5))))) (fun _ hk => ⟨hk.1.1, ⟨hk.1.2.1, ⟨hk.1.2.2.1, ⟨hk.1.2.2.2.1, ⟨hk.1.2.2.2.2.1, hk.1.2.2.2.2.2⟩⟩⟩⟩⟩)⟩, ⟨by (with_reducible repeat (first | apply Kd.N_alloc | apply Kd.N_drewN | apply Kd.N_drew)); exact Kd.N_mono (Kd.N_far (p := ⟨go74, (x14_4 : Int).toNat, none⟩) (Kd.N_mono HO_9.out (fun k_ hk => (⟨hk, fun e_ => hk.2.2.2.2.1 (by rw [e_]; rfl)⟩ : _ ∧ k_ ≠ go74))) (fun _ hk => hk.2) (.int .i64 (wrap64 ((rd x13_5 x14_4) + (rd (rd_L1 x6_2 (wrap64 (x12_3 - t247))) x17_5))))) (fun _ hk => ⟨hk.1.1, ⟨hk.1.2.1, ⟨hk.1.2.2.1, ⟨hk.1.2.2.2.1, ⟨hk.1.2.2.2.2.1, hk.1.2.2.2.2.2⟩⟩⟩⟩⟩)⟩, ⟨by (with_reducible repeat (first | apply Kd.N_alloc | apply Kd.N_drewN | apply Kd.N_drew)); exact Kd.N_mono (Kd.N_far (p := ⟨go74, (x14_4 : Int).toNat, none⟩) (Kd.N_mono HO_11.out (fun k_ hk => (⟨hk, fun e_ => hk.2.2.2.2.1 (by rw [e_]; rfl)⟩ : _ ∧ k_ ≠ go74))) (fun _ hk => hk.2) (.int .i64 (wrap64 ((rd x13_5 x14_4) + (rd (rd_L1 x6_2 (wrap64 (x12_3 - t247))) x17_5))))) (fun _ hk => ⟨hk.1.1, ⟨hk.1.2.1, ⟨hk.1.2.2.1, ⟨hk.1.2.2.2.1, ⟨hk.1.2.2.2.2.1, hk.1.2.2.2.2.2⟩⟩⟩⟩⟩)⟩, ⟨zP HQ78.out⟩, ⟨by (with_reducible repeat (first | refine zJ ?_ _ | refine zK ?_ | refine zI ?_ _)); refine blk_far ?_ (by have h_ := Kd.R_ne HO_13.out BK206.out (by decide); intro e_; exact h_ (by rw [e_]; rfl)) _; (with_reducible repeat (first | refine zJ ?_ _ | refine zK ?_ | refine zI ?_ _)); exact BK206.out⟩, ⟨zV HB.out GB74.out GE206.out⟩⟩
                           rw [if_neg c73] at H
                           exact absurd H (by simp)
                          rw [if_neg c72] at H
                          exact absurd H (by simp)
                         rw [if_neg c71] at H
                         exact absurd H (by simp)
                        rw [if_neg c69] at H
                        exact absurd H (by simp)
                       rw [if_neg c68] at H
                       exact absurd H (by simp)
                      rw [if_neg c67] at H
                      obtain ⟨c67b0, c67b1⟩ := zT2 c67
                      have H' := zA H
                      clear H
                      have p250 : 0 ≤ (x17_5 : Int) := zd
                      have q250 : x17_5 < (x5_3.length : Int) := zd
                      obtain ⟨ad250, e250, hx250_0⟩ := Kd.at_int (kB HO_5.out).2.2 x17_5 p250 q250
                      obtain rfl : ad246 = ad250 := (by injection e250)
                      replace p250 := eq_true p250
                      replace q250 := eq_true q250
                      go_wp2
                      go_roundg k5
                      case measure => have := HK1.out; have := HK2.out; have := HK3.out; have := HK4.out; have := HK5.out; omega
                      case rel => exact ⟨(x13_5), (wrap64 (x17_5 + 1)), zs, H', ⟨by have := HK1.out; have := HK2.out; have := HK3.out; have := HK4.out; have := HK5.out; omega⟩, ⟨zP HO_5.out⟩, ⟨zPN HO_6.out⟩, ⟨zPN HO_9.out⟩, ⟨zPN HO_11.out⟩, ⟨zP HO_13.out⟩, ⟨zR BK206.out⟩, ⟨zT HB.out GE206.out⟩⟩
                     rw [if_neg c54] at H
                     obtain ⟨c54b0, c54b1⟩ := zT2 c54
                     have H' := zA H
                     clear H
                     have p250 : 0 ≤ (x17_5 : Int) := zd
                     have q250 : x17_5 < (x5_3.length : Int) := zd
                     obtain ⟨ad250, e250, hx250_0⟩ := Kd.at_int (kB HO_5.out).2.2 x17_5 p250 q250
                     obtain rfl : ad246 = ad250 := (by injection e250)
                     replace p250 := eq_true p250
                     replace q250 := eq_true q250
                     go_wp2
                     go_roundg k5
                     case measure => have := HK1.out; have := HK2.out; have := HK3.out; have := HK4.out; have := HK5.out; omega
                     case rel => exact ⟨(x13_5), (wrap64 (x17_5 + 1)), zs, H', ⟨by have := HK1.out; have := HK2.out; have := HK3.out; have := HK4.out; have := HK5.out; omega⟩, ⟨zP HO_5.out⟩, ⟨zPN HO_6.out⟩, ⟨zPN HO_9.out⟩, ⟨zPN HO_11.out⟩, ⟨zP HO_13.out⟩, ⟨zR BK206.out⟩, ⟨zT HB.out GE206.out⟩⟩
                    rw [if_neg c53] at H
                    exact absurd H (by simp)
                   rw [if_neg c52] at H
                   have c52b0 : decide (x17_5 < (x5_3.length : Int)) = false := decide_eq_false c52
                   clear c52
                   have H' := zA H
                   clear H
                   go_wp2
                   go_roundg k5
                   case measure => have := HK1.out; have := HK2.out; have := HK3.out; have := HK4.out; have := HK5.out; omega
                   case rel => exact ⟨(x13_5), (wrap64 (x14_4 + 1)), zs, H', ⟨by have := HK1.out; have := HK2.out; have := HK3.out; have := HK4.out; have := HK5.out; omega⟩, ⟨zP HO_5.out⟩, ⟨zPN HO_6.out⟩, ⟨zPN HO_9.out⟩, ⟨zPN HO_11.out⟩, ⟨zP HO_13.out⟩, ⟨zR BK206.out⟩, ⟨zT HB.out GE206.out⟩⟩
                rw [if_neg c46] at H
                exact absurd H (by simp)
               rw [if_neg c45] at H
               have c45b0 : decide (x14_4 < (x5_3.length : Int)) = false := decide_eq_false c45
               clear c45
               by_cases c79 : x11_3.length < 5864062014805
               ·rw [if_pos c79] at H
                have LMc79 := zA c79
                clear c79
                obtain ⟨y243, hy243⟩ : ∃ y_ : List (List Int), y_ = (x11_3 ++ [x13_4]) := ⟨_, rfl⟩
                replace H : (spec_l06First.l2 k4 a1 x5_3 x6_2 x9_2 x10_2 y243 (wrap64 (x12_3 + 1)) a0_0 l0_1) = some r := zy hy243 H
                have Ny243 := zA hy243
                clear hy243
                have H' := zA H
                clear H
                obtain ⟨Ao81, co81, eo81⟩ := kM HO_13.out
                subst eo81
                go_wp2_with (first | ((with_reducible refine gate_builtin (b := .append) (xs := #[.tmp 115, .tmp 117]) rfl ?_); at_builtin; refine Kd.N_append (Kd.slice 2 (Kd.int .i64)) (w0 := w) w.heap.size rfl (.tmp 115) (.tmp 117) 26 22 (.slice none 0 0) 24 rfl Tryd.underlying26 info22 rfl (by decide) (by omega) u11 x11_3 x13_4 [.slice Ao81 x13_4.length co81] (fun k_ => (w.heap.size ≤ k_) ∧ some k_ ≠ (.slice Ao42 x5_3.length co42 : Value).ownBlock ∧ some k_ ≠ (u6 : Value).ownBlock ∧ some k_ ≠ (u9 : Value).ownBlock ∧ k_ ≠ gb206) (fun k_ => ((fun k_ => (w.heap.size ≤ k_) ∧ some k_ ≠ (.slice Ao42 x5_3.length co42 : Value).ownBlock ∧ some k_ ≠ (u6 : Value).ownBlock ∧ some k_ ≠ (u9 : Value).ownBlock ∧ k_ ≠ gb206)) k_ ∧ some k_ ≠ (u11 : Value).ownBlock) rfl rfl ?aP (fun _ hk => hk) ?aF ?aO ?aB ?aS ?aL ?_; (case aP => exact (Kd.FK_slice_mk (kB (kA (ok' := (fun k_ => ((fun k_ => (w.heap.size ≤ k_) ∧ some k_ ≠ (.slice Ao42 x5_3.length co42 : Value).ownBlock ∧ some k_ ≠ (u6 : Value).ownBlock ∧ some k_ ≠ (u9 : Value).ownBlock ∧ k_ ≠ gb206)) k_ ∧ some k_ ≠ (u11 : Value).ownBlock)) (kD (Kd.R_apart' (Kd.R_apart' (Kd.R_apart' (HO_13.out) (Kd.N_typed HO_6.out) (by decide)) (Kd.N_typed HO_9.out) (by decide)) (Kd.N_typed HO_11.out) (by decide)) BK206.out (by decide)) (fun k_ hk => ⟨⟨hk.1.1.1.1.1, ⟨hk.1.1.1.1.2, ⟨hk.1.1.1.2, ⟨hk.1.1.2, hk.2⟩⟩⟩⟩, hk.1.2⟩))).2.1 (Kd.R_F (kA (ok' := (fun k_ => ((fun k_ => (w.heap.size ≤ k_) ∧ some k_ ≠ (.slice Ao42 x5_3.length co42 : Value).ownBlock ∧ some k_ ≠ (u6 : Value).ownBlock ∧ some k_ ≠ (u9 : Value).ownBlock ∧ k_ ≠ gb206)) k_ ∧ some k_ ≠ (u11 : Value).ownBlock)) (kD (Kd.R_apart' (Kd.R_apart' (Kd.R_apart' (HO_13.out) (Kd.N_typed HO_6.out) (by decide)) (Kd.N_typed HO_9.out) (by decide)) (Kd.N_typed HO_11.out) (by decide)) BK206.out (by decide)) (fun k_ hk => ⟨⟨hk.1.1.1.1.1, ⟨hk.1.1.1.1.2, ⟨hk.1.1.1.2, ⟨hk.1.1.2, hk.2⟩⟩⟩⟩, hk.1.2⟩))))); (case aB => exact (zT HB.out GE206.out)); (case aF => exact (fun k_ hk => ⟨(Nat.le_trans (kP (zT HB.out GE206.out)) hk), jF (kH (zP HO_5.out)) k_ hk, jF (jA (zPN HO_6.out)) k_ hk, jF (jA (zPN HO_9.out)) k_ hk, jE (g := gb206) (o := .cells #[.int .i64 a0_0, .slice A0_1 l0_1.length c0_1] 29 (0, 0)) (zR BK206.out) k_ hk⟩)); (case aO => exact (by (with_reducible repeat (first | apply Kd.N_alloc | apply Kd.N_drewN | apply Kd.N_drew)); exact Kd.N_mono HO_11.out (fun _ hk => ⟨hk.1, ⟨hk.2.1, ⟨hk.2.2.1, ⟨hk.2.2.2.1, hk.2.2.2.2.2⟩⟩⟩⟩))); (case aS => exact (kP (zT HB.out GE206.out))); (case aL => have := LMc79.out; omega); intro v244 w80 ho hb hg hat; rw [← Ny243.out] at ho; replace HO_5 := zA (Kd.R_over' (zP HO_5.out) (Kd.N_typed (zPN HO_11.out)) (by decide) hg); replace HO_6 := zA (Kd.N_afterv (ok := (fun k_ => (w.heap.size ≤ k_) ∧ some k_ ≠ (.slice Ao42 x5_3.length co42 : Value).ownBlock ∧ some k_ ≠ (u9 : Value).ownBlock ∧ some k_ ≠ (.slice Ao81 x13_4.length co81 : Value).ownBlock ∧ k_ ≠ gb206)) (by (with_reducible repeat (first | apply Kd.N_alloc | apply Kd.N_drewN | apply Kd.N_drew)); exact Kd.N_mono HO_6.out (fun _ hk => ⟨⟨hk.1, ⟨hk.2.1, ⟨hk.2.2.1, ⟨hk.2.2.2.2.1, hk.2.2.2.2.2⟩⟩⟩⟩, hk.2.2.2.1⟩)) hg hat); replace HO_9 := zA (Kd.N_afterv (ok := (fun k_ => (w.heap.size ≤ k_) ∧ some k_ ≠ (.slice Ao42 x5_3.length co42 : Value).ownBlock ∧ some k_ ≠ (u6 : Value).ownBlock ∧ some k_ ≠ (.slice Ao81 x13_4.length co81 : Value).ownBlock ∧ k_ ≠ gb206)) (by (with_reducible repeat (first | apply Kd.N_alloc | apply Kd.N_drewN | apply Kd.N_drew)); exact Kd.N_mono HO_9.out (fun _ hk => ⟨⟨hk.1, ⟨hk.2.1, ⟨hk.2.2.1, ⟨hk.2.2.2.2.1, hk.2.2.2.2.2⟩⟩⟩⟩, hk.2.2.2.1⟩)) hg hat); replace BK206 := zA (blk_grown (g := gb206) (o := .cells #[.int .i64 a0_0, .slice A0_1 l0_1.length c0_1] 29 (0, 0)) (zR BK206.out) hg (Kd.N_ne HO_11.out BK206.out (by decide))); replace HB := zA (hb); have HO245 := zA (ho); clear HO_11 HO_13; clear ho hb hg hat))
                go_roundg k4
                case measure => have := HK1.out; have := HK2.out; have := HK3.out; have := HK4.out; omega
                case rel => exact ⟨(x5_3), (y243), (wrap64 (x12_3 + 1)), zs, H', ⟨by have := HK1.out; have := HK2.out; have := HK3.out; have := HK4.out; omega⟩, ⟨zPM HO_5.out (fun _ hk => hk.1)⟩, ⟨by (with_reducible repeat (first | apply Kd.N_alloc | apply Kd.N_drewN | apply Kd.N_drew)); exact Kd.N_mono HO_6.out (fun _ hk => ⟨hk.1.1, ⟨hk.1.2.1, ⟨hk.1.2.2.1, ⟨hk.2, hk.1.2.2.2.2⟩⟩⟩⟩)⟩, ⟨by (with_reducible repeat (first | apply Kd.N_alloc | apply Kd.N_drewN | apply Kd.N_drew)); exact Kd.N_mono HO_9.out (fun _ hk => ⟨hk.1.1, ⟨hk.1.2.1, ⟨hk.1.2.2.1, ⟨hk.2, hk.1.2.2.2.2⟩⟩⟩⟩)⟩, ⟨zPN HO245.out⟩, ⟨zR BK206.out⟩, ⟨zT HB.out GE206.out⟩⟩
               rw [if_neg c79] at H
               exact absurd H (by simp)
            rw [if_neg c41] at H
            exact absurd H (by simp)
           rw [if_neg c40] at H
           exact absurd H (by simp)
          rw [if_neg c39] at H
          have c39b0 : decide (x12_3 ≤ a1) = false := decide_eq_false c39
          clear c39
          by_cases c82 : 0 ≤ a1
          ·rw [if_pos c82] at H
           have c82b0 : decide (0 ≤ a1) = true := decide_eq_true c82
           clear c82
           by_cases c83 : a1 < (x11_3.length : Int)
           ·rw [if_pos c83] at H
            have c83b0 : decide (a1 < (x11_3.length : Int)) = true := decide_eq_true c83
            clear c83
            obtain ⟨t234, A84, H⟩ := zb H
            try dsimp only at H
            by_cases c85 : x9_2.length < 5864062014805
            ·rw [if_pos c85] at H
             have LMc85 := zA c85
             clear c85
             obtain ⟨y237, hy237⟩ : ∃ y_ : List (List Int), y_ = (x9_2 ++ [t234]) := ⟨_, rfl⟩
             replace H : (spec_l06First.l1 k3 a1 x5_3 x11_3 y237 (wrap64 (x10_2 + 1)) a0_0 l0_1) = some r := zy hy237 H
             have Ny237 := zA hy237
             clear hy237
             have H' := zA H
             clear H
             obtain ⟨Ao86, co86, eo86⟩ := Kd.N_slice HO_11.out
             subst eo86
             have p233 : 0 ≤ (a1 : Int) := zd
             have q233 : a1 < (x11_3.length : Int) := zd
             obtain ⟨ad233, A233_0, c233_0, e233, hx233_0, hl233_0, hi233_0⟩ := at_L1 (Kd.N_reads' HO_11.out).2.2 a1 p233 q233
             cases e233
             obtain ⟨ce233, hce233, hMe233, hcc233⟩ := Kd.N_get HO_11.out [] a1 p233 (by first | exact q233 | exact zd | (have e_ := (Kd.N_reads' HO_11.out).1; omega))
             obtain ⟨ua233_0, uc233_0, rfl, ul233_0, ge233_0⟩ := Kd.FK_slice_open hMe233
             have hv233_0 := hcc233 0 _ rfl
             rw [Nat.add_zero, show ((Kd.slice 2 (Kd.int .i64))).sz = 1 from rfl, Nat.mul_one] at hv233_0
             replace hv233_0 := Option.some.inj (hv233_0.symm.trans hx233_0)
             injection hv233_0 with hva_ hvn_ hvc_
             rw [hva_] at ge233_0
             rw [hvc_] at ul233_0
             have HL233_0 := zA (show Kd.V (Kd.int .i64) 2 _ w.heap.size _ _ (rd_L1 x11_3 a1) from Kd.V_mk ul233_0 ge233_0)
             clear hva_ hvn_ hvc_ ge233_0 ul233_0 hcc233 hce233
             have HR233_0 := zA hi233_0
             have HC233_0 := zA hl233_0
             clear hi233_0 hl233_0
             replace p233 := eq_true p233
             replace q233 := eq_true q233
             go_wp2_with (first | (refine zO (some 125) Tryd.func46 #[.slice A233_0 (rd_L1 x11_3 a1).length c233_0] ?_; (with_reducible refine (spec_l01Own.calls _ _ (rd_L1 x11_3 a1) t234 _ ?side1 ?side2 A84.out).mono ?_); (case side1 => repeat (first | exact (by repeat (first | (with_reducible exact HR233_0.out) | (with_reducible refine Kd.C_alloc ?_ _) | (with_reducible refine Kd.C_drewN ?_ _) | (with_reducible refine Kd.C_drew ?_) | exact HR233_0.out)) | (with_reducible refine Kd.C_alloc ?_ _) | (with_reducible refine Kd.C_drewN ?_ _) | (with_reducible refine Kd.C_drew ?_))); (case side2 => exact HC233_0.out); rintro e w87 ⟨v235, rfl, ho0, hb⟩; refine ⟨_, rfl, ?_⟩; replace HO_6 := zA (Kd.N_elder' (zPN HO_6.out) (kC ho0) hb); replace HO_9 := zA (Kd.N_elder' (zPN HO_9.out) (kC ho0) hb); replace HO_11 := zA (Kd.N_elder' (zPN HO_11.out) (kC ho0) hb); replace HL233_0 := zA (kK (zPV HL233_0.out) (kC ho0) hb); have HO236 := zA (kI (kF (Kd.R_newM (M := fun k_ => (w.heap.size ≤ k_)) ho0 (kP (zT HB.out GE206.out)) (fun k_ h_ => h_)) (kH (zP HO_5.out))) (kP (zT HB.out GE206.out))); replace HO_5 := zA (kE (zP HO_5.out) (kC ho0) hb); replace BK206 := zA (zB1 BK206.out hb); replace HR233_0 := zA (kO (by repeat (first | (with_reducible exact HR233_0.out) | (with_reducible refine Kd.C_alloc ?_ _) | (with_reducible refine Kd.C_drewN ?_ _) | (with_reducible refine Kd.C_drew ?_) | exact HR233_0.out)) hb); replace HB := zA (kQ (zT HB.out GE206.out) hb); (try clear hb); (try clear ho0); obtain ⟨Ao89, co89, eo89⟩ := kM HO236.out; subst eo89) | ((with_reducible refine gate_builtin (b := .append) (xs := #[.tmp 120, .tmp 126]) rfl ?_); at_builtin; refine Kd.N_append (Kd.slice 2 (Kd.int .i64)) (w0 := w) w.heap.size rfl (.tmp 120) (.tmp 126) 26 22 (.slice none 0 0) 24 rfl Tryd.underlying26 info22 rfl (by decide) (by omega) u9 x9_2 t234 [.slice Ao89 t234.length co89] (fun k_ => (w.heap.size ≤ k_) ∧ some k_ ≠ (v208 : Value).ownBlock ∧ some k_ ≠ (u6 : Value).ownBlock ∧ some k_ ≠ (.slice (some ad233) x11_3.length co86 : Value).ownBlock ∧ k_ ≠ gb206) (fun k_ => ((fun k_ => (w.heap.size ≤ k_) ∧ some k_ ≠ (v208 : Value).ownBlock ∧ some k_ ≠ (u6 : Value).ownBlock ∧ some k_ ≠ (.slice (some ad233) x11_3.length co86 : Value).ownBlock ∧ k_ ≠ gb206)) k_ ∧ some k_ ≠ (u9 : Value).ownBlock) rfl rfl ?aP (fun _ hk => hk) ?aF ?aO ?aB ?aS ?aL ?_; (case aP => exact (Kd.FK_slice_mk (kB (kA (ok' := (fun k_ => ((fun k_ => (w.heap.size ≤ k_) ∧ some k_ ≠ (v208 : Value).ownBlock ∧ some k_ ≠ (u6 : Value).ownBlock ∧ some k_ ≠ (.slice (some ad233) x11_3.length co86 : Value).ownBlock ∧ k_ ≠ gb206)) k_ ∧ some k_ ≠ (u9 : Value).ownBlock)) (kD (Kd.R_apart' (Kd.R_apart' (Kd.R_apart' (HO236.out) (Kd.N_typed HO_6.out) (by decide)) (Kd.N_typed HO_11.out) (by decide)) (Kd.N_typed HO_9.out) (by decide)) BK206.out (by decide)) (fun k_ hk => ⟨⟨hk.1.1.1.1.1.1, ⟨hk.1.1.1.1.2, ⟨hk.1.1.1.2, ⟨hk.1.1.2, hk.2⟩⟩⟩⟩, hk.1.2⟩))).2.1 (Kd.R_F (kA (ok' := (fun k_ => ((fun k_ => (w.heap.size ≤ k_) ∧ some k_ ≠ (v208 : Value).ownBlock ∧ some k_ ≠ (u6 : Value).ownBlock ∧ some k_ ≠ (.slice (some ad233) x11_3.length co86 : Value).ownBlock ∧ k_ ≠ gb206)) k_ ∧ some k_ ≠ (u9 : Value).ownBlock)) (kD (Kd.R_apart' (Kd.R_apart' (Kd.R_apart' (HO236.out) (Kd.N_typed HO_6.out) (by decide)) (Kd.N_typed HO_11.out) (by decide)) (Kd.N_typed HO_9.out) (by decide)) BK206.out (by decide)) (fun k_ hk => ⟨⟨hk.1.1.1.1.1.1, ⟨hk.1.1.1.1.2, ⟨hk.1.1.1.2, ⟨hk.1.1.2, hk.2⟩⟩⟩⟩, hk.1.2⟩))))); (case aB => exact (zT HB.out GE206.out)); (case aF => exact (fun k_ hk => ⟨(Nat.le_trans (kP (zT HB.out GE206.out)) hk), jF (kH (zP HO_5.out)) k_ hk, jF (jA (zPN HO_6.out)) k_ hk, jF (jA (zPN HO_11.out)) k_ hk, jE (g := gb206) (o := .cells #[.int .i64 a0_0, .slice A0_1 l0_1.length c0_1] 29 (0, 0)) (zR BK206.out) k_ hk⟩)); (case aO => exact (by (with_reducible repeat (first | apply Kd.N_alloc | apply Kd.N_drewN | apply Kd.N_drew)); exact Kd.N_mono HO_9.out (fun _ hk => ⟨hk.1.1, ⟨hk.1.2.1, ⟨hk.1.2.2.1, ⟨hk.1.2.2.2.1, hk.1.2.2.2.2⟩⟩⟩⟩))); (case aS => exact (kP (zT HB.out GE206.out))); (case aL => have := LMc85.out; omega); intro v238 w88 ho hb hg hat; rw [← Ny237.out] at ho; replace HO_5 := zA (Kd.R_over' (zP HO_5.out) (Kd.N_typed (zPN HO_9.out)) (by decide) hg); replace HO_6 := zA (Kd.N_afterv (ok := (fun k_ => (w.heap.size ≤ k_) ∧ some k_ ≠ (v208 : Value).ownBlock ∧ some k_ ≠ (.slice (some ad233) x11_3.length co86 : Value).ownBlock ∧ some k_ ≠ (.slice Ao89 t234.length co89 : Value).ownBlock ∧ k_ ≠ gb206)) (by (with_reducible repeat (first | apply Kd.N_alloc | apply Kd.N_drewN | apply Kd.N_drew)); exact Kd.N_mono HO_6.out (fun _ hk => ⟨⟨hk.1.1, ⟨hk.1.2.1, ⟨hk.1.2.2.2.1, ⟨hk.2, hk.1.2.2.2.2⟩⟩⟩⟩, hk.1.2.2.1⟩)) hg hat); replace HO_11 := zA (Kd.N_afterv (ok := (fun k_ => (w.heap.size ≤ k_) ∧ some k_ ≠ (v208 : Value).ownBlock ∧ some k_ ≠ (u6 : Value).ownBlock ∧ some k_ ≠ (.slice Ao89 t234.length co89 : Value).ownBlock ∧ k_ ≠ gb206)) (by (with_reducible repeat (first | apply Kd.N_alloc | apply Kd.N_drewN | apply Kd.N_drew)); exact Kd.N_mono HO_11.out (fun _ hk => ⟨⟨hk.1.1, ⟨hk.1.2.1, ⟨hk.1.2.2.1, ⟨hk.2, hk.1.2.2.2.2⟩⟩⟩⟩, hk.1.2.2.2.1⟩)) hg hat); replace BK206 := zA (blk_grown (g := gb206) (o := .cells #[.int .i64 a0_0, .slice A0_1 l0_1.length c0_1] 29 (0, 0)) (zR BK206.out) hg (Kd.N_ne HO_9.out BK206.out (by decide))); replace HL233_0 := zA (Kd.V_afterv (ok := (fun k_ => (w.heap.size ≤ k_) ∧ some k_ ≠ (v208 : Value).ownBlock ∧ some k_ ≠ (u6 : Value).ownBlock ∧ some k_ ≠ (.slice (some ad233) x11_3.length co86 : Value).ownBlock ∧ some k_ ≠ (.slice Ao89 t234.length co89 : Value).ownBlock ∧ k_ ≠ gb206)) (by (with_reducible repeat (first | apply Kd.V_alloc | apply Kd.V_drewN | apply Kd.V_drew)); exact kN HL233_0.out (fun _ hk => ⟨⟨hk.1.1.1, ⟨hk.1.1.2.1, ⟨hk.1.1.2.2.1, ⟨hk.1.2, ⟨hk.2, hk.1.1.2.2.2.2⟩⟩⟩⟩⟩, hk.1.1.2.2.2.1⟩)) hg hat); replace HB := zA (hb); have HO239 := zA (ho); clear HO_9 HO236; clear ho hb hg hat))
             go_roundg k3
             case measure => have := HK1.out; have := HK2.out; have := HK3.out; omega
             case rel => exact ⟨(x5_3), (x11_3), (y237), (wrap64 (x10_2 + 1)), zs, H', ⟨by have := HK1.out; have := HK2.out; have := HK3.out; omega⟩, ⟨zPM HO_5.out (fun _ hk => hk.1)⟩, ⟨by (with_reducible repeat (first | apply Kd.N_alloc | apply Kd.N_drewN | apply Kd.N_drew)); exact Kd.N_mono HO_11.out (fun _ hk => ⟨hk.1.1, ⟨hk.1.2.1, ⟨hk.2, hk.1.2.2.2.2⟩⟩⟩)⟩, ⟨by (with_reducible repeat (first | apply Kd.N_alloc | apply Kd.N_drewN | apply Kd.N_drew)); exact Kd.N_mono HO239.out (fun _ hk => ⟨hk.1, ⟨hk.2.1, ⟨hk.2.2.2.1, hk.2.2.2.2⟩⟩⟩)⟩, ⟨zR BK206.out⟩, ⟨zT HB.out GE206.out⟩⟩
            rw [if_neg c85] at H
            exact absurd H (by simp)
           rw [if_neg c83] at H
           exact absurd H (by simp)
          rw [if_neg c82] at H
          exact absurd H (by simp)
       rw [if_neg c36] at H
       have c36b0 : decide (x10_2 ≤ a1) = false := decide_eq_false c36
       clear c36
       obtain rfl := Option.some.inj H
       go_wp2
       go_ret
       exact ⟨_, zr, by (with_reducible repeat (first | apply Kd.N_alloc | apply Kd.N_drewN | apply Kd.N_drew)); exact Kd.N_mono HO_9.out (fun _ hk => hk.1), zT HB.out GE206.out⟩
    rw [if_neg c29] at H
    exact absurd H (by simp)
   rw [if_neg c28] at H
   exact absurd H (by simp)

/-! ### spec_CountByHeight: function 17 -/
mutual
def spec_CountByHeight.l0 : Nat → List (List Int) → List Int → Int → Option (List Int × Int)
 | 0, _, _, _ => none
 | k + 1, x8, x9, x10 => if x10 < (x8.length : Int) then (spec_CountByHeight.l1 k x8 x9 x10 0 0) else (some (x9, 0))
def spec_CountByHeight.l1 : Nat → List (List Int) → List Int → Int → Int → Int → Option (List Int × Int)
 | 0, _, _, _, _, _ => none
 | k + 1, x8, x9, x10, x11, x12 => if 0 ≤ x10 then (if x10 < (x8.length : Int) then (if x12 < ((rd_L1 x8 x10).length : Int) then (if 0 ≤ x12 then (spec_CountByHeight.l1 k x8 x9 x10 (wrap64 (x11 + (rd (rd_L1 x8 x10) x12))) (wrap64 (x12 + 1))) else (none)) else (if x9.length < 17592186044416 then (spec_CountByHeight.l0 k x8 (x9 ++ [x11]) (wrap64 (x10 + 1))) else (none))) else (none)) else (none)
end
def spec_CountByHeight.f (k : Nat) (a0_0 : Int) (l0_1 : List Int) (a1 : Int) : Option (List Int × Int) := (spec_CountTraces.f k a0_0 l0_1 a1).bind fun bt260 => (if bt260.2 = 0 then ((spec_l06First.f k a0_0 l0_1 a1).bind fun t262 => (spec_CountByHeight.l0 k t262 (([] : List Int)) 0)) else (some (([] : List Int), bt260.2)))

set_option maxHeartbeats 8000000 in
set_option maxRecDepth 100000 in
theorem spec_CountByHeight.calls (k : Nat) (a0_0 : Int) (A0_1 : Option Addr) (c0_1 : Nat) (l0_1 : List Int) (a1 : Int) (r1 : List Int) (r2 : Int) (w : World) (hr0_1 : Kd.C (Kd.int .i64) w A0_1 l0_1.length l0_1) (hc0_1 : l0_1.length ≤ c0_1) (h : spec_CountByHeight.f k a0_0 l0_1 a1 = some (r1, r2)) :
  Calls Tryd.prog 17 #[.agg #[.int .i64 a0_0, .slice A0_1 l0_1.length c0_1], .int .i64 a1] w fun e w' => ∃ v0_ : Value, e = .returned (.tuple #[v0_, .int .i64 r2]) ∧ Kd.R (Kd.int .i64) 2 w' w.heap.size (fun _ => True) v0_ r1 ∧ Below w.heap.size w w' := by
 have hu29 := Tryd.underlying29
 have HR0_1 := zA hr0_1
 have HC0_1 := zA hc0_1
 clear hr0_1 hc0_1
 have HB := zA (kW w.heap.size w)
 have H := h
 unfold spec_CountByHeight.f at H
 clear h
 obtain ⟨⟨t260, t261⟩, A3, H⟩ := zb H
 try dsimp only at H
 by_cases c4 : t261 = 0
 ·rw [if_pos c4] at H
  obtain ⟨c4b0, c4b1⟩ := zT1 c4
  clear c4
  obtain ⟨t262, A5, H⟩ := zb H
  try dsimp only at H
  obtain ⟨y265, hy265⟩ : ∃ y_ : List Int, y_ = (([] : List Int)) := ⟨_, rfl⟩
  replace H : (spec_CountByHeight.l0 k t262 y265 0) = some (r1, r2) := zy hy265 H
  have Ny265 := zA hy265
  clear hy265
  have H' := zA H
  clear H
  go_enter Tryd.func17, Tryd.ntmps17
  go_wp2_with (first | (refine zBE 2 #[.int .i64 a0_0, .slice A0_1 l0_1.length c0_1] 29 ?_; intro gb259 hg w6 hbox hb; have BK259 := zA (hbox); have GW259 := zA (zBH hg HB.out); have GE259 := zA (zBH hg HB.out); replace HB := zA (kQ (zQ HB.out) hb); clear hb hbox hg; obtain ⟨hcz7_0, hcz7_1, hfz7_0, hfz7_1⟩ := zB3 BK259.out) | (refine zO (some 16) Tryd.func23 #[.agg #[.int .i64 a0_0, .slice A0_1 l0_1.length c0_1], .int .i64 a1] ?_; (with_reducible refine (spec_CountTraces.calls k a0_0 _ _ l0_1 a1 t260 t261 _ ?side1 ?side2 A3.out).mono ?_); (case side1 => exact zS (kO HR0_1.out HB.out)); (case side2 => exact HC0_1.out); rintro e w8 ⟨rfl, hb⟩; refine ⟨_, rfl, ?_⟩; replace BK259 := zA (zB1 BK259.out hb); replace HB := zA (kQ (zT HB.out GE259.out) hb); (try clear hb); obtain ⟨hcz9_0, hcz9_1, hfz9_0, hfz9_1⟩ := zB3 BK259.out) | (refine zO (some 24) Tryd.func37 #[.agg #[.int .i64 a0_0, .slice A0_1 l0_1.length c0_1], .int .i64 a1] ?_; (with_reducible refine (spec_l06First.calls k a0_0 _ _ l0_1 a1 t262 _ ?side1 ?side2 A5.out).mono ?_); (case side1 => exact zS (kO HR0_1.out HB.out)); (case side2 => exact HC0_1.out); rintro e w10 ⟨v263, rfl, ho0, hb⟩; refine ⟨_, rfl, ?_⟩; have HO264 := zA (jN (Kd.N_mono (ok' := fun k_ => k_ ≠ gb259) ho0 (fun k_ hk_ => (jE (g := gb259) (o := .cells #[.int .i64 a0_0, .slice A0_1 l0_1.length c0_1] 29 (0, 0)) (zR BK259.out) k_ hk_))) (kP (zT HB.out GE259.out))); replace BK259 := zA (zB1 BK259.out hb); replace HB := zA (kQ (zT HB.out GE259.out) hb); (try clear hb); (try clear ho0)) | ((with_reducible refine kS (N := 25) rfl ?_); refine Kd.R_lit (Kd.int .i64) _ 2 ?hg (N := 25) ?hd (xs := ([] : List Int)) (inner := []) (ok := fun _ => True) (okp := fun _ => True) ?hr ?hp (fun _ hk => hk) trivial (kW _ _) (Nat.le_refl _) (by simp) ?_; (case hd => rfl); (case hg => rfl); (case hr => first | (go_simp; done) | (go_simp; rfl)); (case hp => exact (Reps.none _ _)); intro v266 w11 ho12 hb hg_ hnew_; clear hg_ hnew_; (first | rw [← Ny265.out] at ho12 | (simp only [Int.reduceToNat] at ho12; rw [← Ny265.out] at ho12)); replace HO264 := zA (Kd.N_elder' (zPN HO264.out) (kC ho12) hb); have HO267 := zA (kI ho12 (kP (zT HB.out GE259.out))); replace BK259 := zA (zB1 BK259.out hb); replace HB := zA (kQ (zT HB.out GE259.out) hb); clear hb ho12))
  go_loopg [9, 10] k (fun kq v9 v10 w' => ∃ (x9_1 : List Int) (x10_1 : Int), v10 = .int .i64 x10_1 ∧ Aside0 (spec_CountByHeight.l0 kq t262 x9_1 x10_1 = some (r1, r2)) ∧ Aside0 (kq ≤ k) ∧ Aside0 (Kd.N (Kd.slice 2 (Kd.int .i64)) 22 w' w.heap.size (fun k_ => some k_ ≠ (v9 : Value).ownBlock ∧ k_ ≠ gb259) v263 t262) ∧ Aside0 (Kd.R (Kd.int .i64) 2 w' w.heap.size (fun _ => True) v9 x9_1) ∧ Aside0 (w'.heap[gb259]? = some (.cells #[.int .i64 a0_0, (.slice A0_1 l0_1.length c0_1)] 29 (0, 0))) ∧ Aside0 (Below w.heap.size w w'))
  case atStart => exact ⟨(y265), (0), zs, H', ⟨Nat.le_refl _⟩, ⟨by (with_reducible repeat (first | apply Kd.N_alloc | apply Kd.N_drewN | apply Kd.N_drew)); exact Kd.N_mono HO264.out (fun _ hk => ⟨hk.2, hk.1⟩)⟩, ⟨zP HO267.out⟩, ⟨zR BK259.out⟩, ⟨zT HB.out GE259.out⟩⟩
  case round =>
   clear H'
   try clear c1
   try clear c2
   try clear c3
   try clear c4
   try clear hcz7_0
   try clear hcz7_1
   try clear hcz9_0
   try clear hcz9_1
   try clear hfz7_0
   try clear hfz7_1
   try clear hfz9_0
   try clear hfz9_1
   obtain ⟨x9_1, x10_1, rfl, HA, HK1, HO_8, HO_9, BK259, HB⟩ := hrel
   cases gk with
   | zero => exact absurd HA.out (by simp [spec_CountByHeight.l0])
   | succ k1 =>
    have H := HA.out
    clear HA
    simp only [spec_CountByHeight.l0] at H
    by_cases c13 : x10_1 < (t262.length : Int)
    ·rw [if_pos c13] at H
     have c13b0 : decide (x10_1 < (t262.length : Int)) = true := decide_eq_true c13
     clear c13
     have H' := zA H
     clear H
     obtain ⟨Ao14, co14, eo14⟩ := Kd.N_slice HO_8.out
     subst eo14
     go_wp2
     go_loopg [11, 12] k1 (fun kq v11 v12 w' => ∃ (x11_2 : Int) (x12_2 : Int), v11 = .int .i64 x11_2 ∧ v12 = .int .i64 x12_2 ∧ Aside0 (spec_CountByHeight.l1 kq t262 x9_1 x10_1 x11_2 x12_2 = some (r1, r2)) ∧ Aside0 (kq ≤ k1) ∧ Aside0 (Kd.N (Kd.slice 2 (Kd.int .i64)) 22 w' w.heap.size (fun k_ => some k_ ≠ (u9 : Value).ownBlock ∧ k_ ≠ gb259) (.slice Ao14 t262.length co14) t262) ∧ Aside0 (Kd.R (Kd.int .i64) 2 w' w.heap.size (fun _ => True) u9 x9_1) ∧ Aside0 (w'.heap[gb259]? = some (.cells #[.int .i64 a0_0, (.slice A0_1 l0_1.length c0_1)] 29 (0, 0))) ∧ Aside0 (Below w.heap.size w w'))
     case atStart => exact ⟨(0), (0), zs, zs, H', ⟨Nat.le_refl _⟩, ⟨zPN HO_8.out⟩, ⟨zP HO_9.out⟩, ⟨zR BK259.out⟩, ⟨zT HB.out GE259.out⟩⟩
     case round =>
      clear H'
      try clear c1
      try clear c2
      try clear c3
      try clear c4
      try clear c13
      try clear hcz7_0
      try clear hcz7_1
      try clear hcz9_0
      try clear hcz9_1
      try clear hfz7_0
      try clear hfz7_1
      try clear hfz9_0
      try clear hfz9_1
      obtain ⟨x11_2, x12_2, rfl, rfl, HA, HK2, HO_8, HO_9, BK259, HB⟩ := hrel
      cases gk with
      | zero => exact absurd HA.out (by simp [spec_CountByHeight.l1])
      | succ k2 =>
       have H := HA.out
       clear HA
       simp only [spec_CountByHeight.l1] at H
       by_cases c15 : 0 ≤ x10_1
       ·rw [if_pos c15] at H
        have c15b0 : decide (0 ≤ x10_1) = true := decide_eq_true c15
        clear c15
        by_cases c16 : x10_1 < (t262.length : Int)
        ·rw [if_pos c16] at H
         have c16b0 : decide (x10_1 < (t262.length : Int)) = true := decide_eq_true c16
         clear c16
         by_cases c17 : x12_2 < ((rd_L1 t262 x10_1).length : Int)
         ·rw [if_pos c17] at H
          have c17b0 : decide (x12_2 < ((rd_L1 t262 x10_1).length : Int)) = true := decide_eq_true c17
          clear c17
          by_cases c18 : 0 ≤ x12_2
          ·rw [if_pos c18] at H
           have c18b0 : decide (0 ≤ x12_2) = true := decide_eq_true c18
           clear c18
           have H' := zA H
           clear H
           have p268 : 0 ≤ (x10_1 : Int) := zd
           have q268 : x10_1 < (t262.length : Int) := zd
           obtain ⟨ad268, A268_0, c268_0, e268, hx268_0, hl268_0, hi268_0⟩ := at_L1 (Kd.N_reads' HO_8.out).2.2 x10_1 p268 q268
           cases e268
           obtain ⟨ce268, hce268, hMe268, hcc268⟩ := Kd.N_get HO_8.out [] x10_1 p268 (by first | exact q268 | exact zd | (have e_ := (Kd.N_reads' HO_8.out).1; omega))
           obtain ⟨ua268_0, uc268_0, rfl, ul268_0, ge268_0⟩ := Kd.FK_slice_open hMe268
           have hv268_0 := hcc268 0 _ rfl
           rw [Nat.add_zero, show ((Kd.slice 2 (Kd.int .i64))).sz = 1 from rfl, Nat.mul_one] at hv268_0
           replace hv268_0 := Option.some.inj (hv268_0.symm.trans hx268_0)
           injection hv268_0 with hva_ hvn_ hvc_
           rw [hva_] at ge268_0
           rw [hvc_] at ul268_0
           have HL268_0 := zA (show Kd.V (Kd.int .i64) 2 _ w.heap.size _ _ (rd_L1 t262 x10_1) from Kd.V_mk ul268_0 ge268_0)
           clear hva_ hvn_ hvc_ ge268_0 ul268_0 hcc268 hce268
           have HR268_0 := zA hi268_0
           have HC268_0 := zA hl268_0
           clear hi268_0 hl268_0
           replace p268 := eq_true p268
           replace q268 := eq_true q268
           have p269 : 0 ≤ (x10_1 : Int) := zd
           have q269 : x10_1 < (t262.length : Int) := zd
           obtain ⟨ad269, A269_0, c269_0, e269, hx269_0, hl269_0, hi269_0⟩ := at_L1 (Kd.N_reads' HO_8.out).2.2 x10_1 p269 q269
           obtain rfl : ad268 = ad269 := (by injection e269)
           obtain ⟨ce269, hce269, hMe269, hcc269⟩ := Kd.N_get HO_8.out [] x10_1 p269 (by first | exact q269 | exact zd | (have e_ := (Kd.N_reads' HO_8.out).1; omega))
           obtain ⟨ua269_0, uc269_0, rfl, ul269_0, ge269_0⟩ := Kd.FK_slice_open hMe269
           have hv269_0 := hcc269 0 _ rfl
           rw [Nat.add_zero, show ((Kd.slice 2 (Kd.int .i64))).sz = 1 from rfl, Nat.mul_one] at hv269_0
           replace hv269_0 := Option.some.inj (hv269_0.symm.trans hx269_0)
           injection hv269_0 with hva_ hvn_ hvc_
           rw [hva_] at ge269_0
           rw [hvc_] at ul269_0
           have HL269_0 := zA (show Kd.V (Kd.int .i64) 2 _ w.heap.size _ _ (rd_L1 t262 x10_1) from Kd.V_mk ul269_0 ge269_0)
           clear hva_ hvn_ hvc_ ge269_0 ul269_0 hcc269 hce269
           have HR269_0 := zA hi269_0
           have HC269_0 := zA hl269_0
           clear hi269_0 hl269_0
           replace p269 := eq_true p269
           replace q269 := eq_true q269
           have ea_ := Option.some.inj (hx268_0.symm.trans hx269_0)
           injection ea_ with ea_ en_ ec_
           subst ea_
           subst ec_
           clear en_
           have p270 : 0 ≤ (x12_2 : Int) := zd
           have q270 : x12_2 < ((rd_L1 t262 x10_1).length : Int) := zd
           obtain ⟨ad270, e270, hx270_0⟩ := Kd.at_int (by repeat (first | (with_reducible exact HR269_0.out) | (with_reducible refine Kd.C_alloc ?_ _) | (with_reducible refine Kd.C_drewN ?_ _) | (with_reducible refine Kd.C_drew ?_) | exact HR269_0.out)) x12_2 p270 q270
           cases e270
           replace p270 := eq_true p270
           replace q270 := eq_true q270
           go_wp2
           go_roundg k2
           case measure => have := HK1.out; have := HK2.out; omega
           case rel => exact ⟨(wrap64 (x11_2 + (rd (rd_L1 t262 x10_1) x12_2))), (wrap64 (x12_2 + 1)), zs, zs, H', ⟨by have := HK1.out; have := HK2.out; omega⟩, ⟨zPN HO_8.out⟩, ⟨zP HO_9.out⟩, ⟨zR BK259.out⟩, ⟨zT HB.out GE259.out⟩⟩
          rw [if_neg c18] at H
          exact absurd H (by simp)
         rw [if_neg c17] at H
         have c17b0 : decide (x12_2 < ((rd_L1 t262 x10_1).length : Int)) = false := decide_eq_false c17
         clear c17
         by_cases c19 : x9_1.length < 17592186044416
         ·rw [if_pos c19] at H
          have LMc19 := zA c19
          clear c19
          obtain ⟨y271, hy271⟩ : ∃ y_ : List Int, y_ = (x9_1 ++ [x11_2]) := ⟨_, rfl⟩
          replace H : (spec_CountByHeight.l0 k2 t262 y271 (wrap64 (x10_1 + 1))) = some (r1, r2) := zy hy271 H
          have Ny271 := zA hy271
          clear hy271
          have H' := zA H
          clear H
          have p268 : 0 ≤ (x10_1 : Int) := zd
          have q268 : x10_1 < (t262.length : Int) := zd
          obtain ⟨ad268, A268_0, c268_0, e268, hx268_0, hl268_0, hi268_0⟩ := at_L1 (Kd.N_reads' HO_8.out).2.2 x10_1 p268 q268
          cases e268
          obtain ⟨ce268, hce268, hMe268, hcc268⟩ := Kd.N_get HO_8.out [] x10_1 p268 (by first | exact q268 | exact zd | (have e_ := (Kd.N_reads' HO_8.out).1; omega))
          obtain ⟨ua268_0, uc268_0, rfl, ul268_0, ge268_0⟩ := Kd.FK_slice_open hMe268
          have hv268_0 := hcc268 0 _ rfl
          rw [Nat.add_zero, show ((Kd.slice 2 (Kd.int .i64))).sz = 1 from rfl, Nat.mul_one] at hv268_0
          replace hv268_0 := Option.some.inj (hv268_0.symm.trans hx268_0)
          injection hv268_0 with hva_ hvn_ hvc_
          rw [hva_] at ge268_0
          rw [hvc_] at ul268_0
          have HL268_0 := zA (show Kd.V (Kd.int .i64) 2 _ w.heap.size _ _ (rd_L1 t262 x10_1) from Kd.V_mk ul268_0 ge268_0)
          clear hva_ hvn_ hvc_ ge268_0 ul268_0 hcc268 hce268
          have HR268_0 := zA hi268_0
          have HC268_0 := zA hl268_0
          clear hi268_0 hl268_0
          replace p268 := eq_true p268
          replace q268 := eq_true q268
          go_wp2_with (first | ((with_reducible refine gate_builtin (b := .append) (xs := #[.tmp 50, .tmp 52]) rfl ?_); at_builtin; refine Kd.R_append (Kd.int .i64) (w0 := w) w.heap.size rfl (.tmp 50) (.tmp 52) 22 2 (.int .i64 0) 8 rfl Tryd.underlying22 info2 rfl (by decide) (by omega) u9 x9_1 x11_2 [.int .i64 x11_2] (fun _ => True) (fun _ => False) rfl rfl ?aP (fun _ hk => hk.elim) ?aF ?aO ?aB ?aS ?aL ?_; (case aP => exact rfl); (case aB => exact (zT HB.out GE259.out)); (case aF => exact (fun _ _ => trivial)); (case aO => exact (zP HO_9.out)); (case aS => exact (kP (zT HB.out GE259.out))); (case aL => have := LMc19.out; omega); intro v272 w20 ho hb hg hat; rw [← Ny271.out] at ho; replace HO_8 := zA (Kd.N_afterv (ok := (fun k_ => k_ ≠ gb259)) (by (with_reducible repeat (first | apply Kd.N_alloc | apply Kd.N_drewN | apply Kd.N_drew)); exact Kd.N_mono HO_8.out (fun _ hk => ⟨hk.2, hk.1⟩)) hg hat); replace BK259 := zA (blk_grown (g := gb259) (o := .cells #[.int .i64 a0_0, .slice A0_1 l0_1.length c0_1] 29 (0, 0)) (zR BK259.out) hg (Kd.R_ne HO_9.out BK259.out (by decide))); replace HL268_0 := zA (Kd.V_afterv (ok := (fun k_ => some k_ ≠ (.slice (some ad268) t262.length co14 : Value).ownBlock ∧ k_ ≠ gb259)) (by (with_reducible repeat (first | apply Kd.V_alloc | apply Kd.V_drewN | apply Kd.V_drew)); exact kN HL268_0.out (fun _ hk => ⟨⟨hk.2, hk.1.2⟩, hk.1.1⟩)) hg hat); replace HB := zA (hb); have HO273 := zA (ho); clear HO_9; clear ho hb hg hat))
          go_roundg k2
          case measure => have := HK1.out; have := HK2.out; omega
          case rel => exact ⟨(y271), (wrap64 (x10_1 + 1)), zs, H', ⟨by have := HK1.out; have := HK2.out; omega⟩, ⟨by (with_reducible repeat (first | apply Kd.N_alloc | apply Kd.N_drewN | apply Kd.N_drew)); exact Kd.N_mono HO_8.out (fun _ hk => ⟨hk.2, hk.1⟩)⟩, ⟨zP HO273.out⟩, ⟨zR BK259.out⟩, ⟨zT HB.out GE259.out⟩⟩
         rw [if_neg c19] at H
         exact absurd H (by simp)
        rw [if_neg c16] at H
        exact absurd H (by simp)
       rw [if_neg c15] at H
       exact absurd H (by simp)
    rw [if_neg c13] at H
    have c13b0 : decide (x10_1 < (t262.length : Int)) = false := decide_eq_false c13
    clear c13
    simp only [Option.some.injEq, Prod.mk.injEq] at H
    obtain ⟨rfl, rfl⟩ := H
    obtain ⟨Ao21, co21, eo21⟩ := Kd.N_slice HO_8.out
    subst eo21
    go_wp2
    go_ret2
    exact ⟨_, zr, zP HO_9.out, zT HB.out GE259.out⟩
 rw [if_neg c4] at H
 obtain ⟨c4b0, c4b1⟩ := zT2 c4
 simp only [Option.some.injEq, Prod.mk.injEq] at H
 obtain ⟨rfl, rfl⟩ := H
 go_enter Tryd.func17, Tryd.ntmps17
 go_wp2_with (first | (refine zBE 2 #[.int .i64 a0_0, .slice A0_1 l0_1.length c0_1] 29 ?_; intro gb259 hg w22 hbox hb; have BK259 := zA (hbox); have GW259 := zA (zBH hg HB.out); have GE259 := zA (zBH hg HB.out); replace HB := zA (kQ (zQ HB.out) hb); clear hb hbox hg; obtain ⟨hcz23_0, hcz23_1, hfz23_0, hfz23_1⟩ := zB3 BK259.out) | (refine zO (some 16) Tryd.func23 #[.agg #[.int .i64 a0_0, .slice A0_1 l0_1.length c0_1], .int .i64 a1] ?_; (with_reducible refine (spec_CountTraces.calls k a0_0 _ _ l0_1 a1 t260 t261 _ ?side1 ?side2 A3.out).mono ?_); (case side1 => exact zS (kO HR0_1.out HB.out)); (case side2 => exact HC0_1.out); rintro e w24 ⟨rfl, hb⟩; refine ⟨_, rfl, ?_⟩; replace BK259 := zA (zB1 BK259.out hb); replace HB := zA (kQ (zT HB.out GE259.out) hb); (try clear hb)))
 go_ret2
 exact ⟨_, zr, zn, zT HB.out GE259.out⟩

/-! ### impl_inRange: function 39 -/
def impl_inRange.f (a0 : Int) (a1 : Int) (a2 : Int) : Option (Bool) := if a1 ≤ a0 then (some (decide (a0 ≤ a2))) else (some false)
set_option maxHeartbeats 8000000 in
set_option maxRecDepth 100000 in
theorem impl_inRange.calls (a0 : Int) (a1 : Int) (a2 : Int) (r : Bool) (w : World) (h : impl_inRange.f a0 a1 a2 = some r) :
  Calls Tryd.prog 39 #[.int .i64 a0, .int .i64 a1, .int .i64 a2] w fun e w' => e = .returned (.bool r) ∧ Drawn0 w w' := by
 have H := h
 unfold impl_inRange.f at H
 clear h
 by_cases c4 : a1 ≤ a0
 ·rw [if_pos c4] at H
  have c4b0 : decide (a1 ≤ a0) = true := decide_eq_true c4
  clear c4
  obtain rfl := Option.some.inj H
  go_enter Tryd.func39, Tryd.ntmps39
  go_wp2
  go_ret
  exact ⟨zs, by repeat (first | exact Drawn0.refl _ | apply Drawn0.step)⟩
 rw [if_neg c4] at H
 have c4b0 : decide (a1 ≤ a0) = false := decide_eq_false c4
 clear c4
 obtain rfl := Option.some.inj H
 go_enter Tryd.func39, Tryd.ntmps39
 go_wp2
 go_ret
 exact ⟨zs, by repeat (first | exact Drawn0.refl _ | apply Drawn0.step)⟩

/-! ### impl_length_int64: function 51 -/
def impl_length_int64.f (l0 : List Int) : Option (Int) := some (l0.length : Int)
set_option maxHeartbeats 8000000 in
set_option maxRecDepth 100000 in
theorem impl_length_int64.calls (A0 : Option Addr) (c0 : Nat) (l0 : List Int) (r : Int) (w : World) (hr0 : Kd.C (Kd.int .i64) w A0 l0.length l0) (hc0 : l0.length ≤ c0) (h : impl_length_int64.f l0 = some r) :
  Calls Tryd.prog 51 #[.slice A0 l0.length c0] w fun e w' => e = .returned (.int .i64 r) ∧ Drawn0 w w' := by
 have HR0 := zA hr0
 have HC0 := zA hc0
 clear hr0 hc0
 have H := h
 unfold impl_length_int64.f at H
 clear h
 obtain rfl := Option.some.inj H
 go_enter Tryd.func51, Tryd.ntmps51
 go_wp2
 go_ret
 exact ⟨zs, by repeat (first | exact Drawn0.refl _ | apply Drawn0.step)⟩

/-! ### impl_has: function 52 -/
def impl_has.f (a0 : Int) (a1 : Int) : Option (Bool) := if 0 ≤ a1 then (some ((Go.bits .and .i64 (shr .i64 a0 a1) 1) == 1)) else (none)
set_option maxHeartbeats 8000000 in
set_option maxRecDepth 100000 in
theorem impl_has.calls (a0 : Int) (a1 : Int) (r : Bool) (w : World) (h : impl_has.f a0 a1 = some r) :
  Calls Tryd.prog 52 #[.int .i64 a0, .int .i64 a1] w fun e w' => e = .returned (.bool r) ∧ Drawn0 w w' := by
 have H := h
 unfold impl_has.f at H
 clear h
 by_cases c3 : 0 ≤ a1
 ·rw [if_pos c3] at H
  have c3b0 := eq_true c3
  have c3b1 : decide (0 ≤ a1) = true := decide_eq_true c3
  clear c3
  obtain ⟨ji4, hji4⟩ : ∃ j_ : Int, (shr .i64 a0 a1) = j_ := ⟨_, rfl⟩
  replace H : (some ((Go.bits .and .i64 (ji4) 1) == 1)) = some r := by first | (rw [hji4] at H; exact H) | (simp only [hji4] at H ⊢; exact H)
  have hji4_ : (a0 / 2 ^ min a1.toNat 64) = ji4 := hji4
  have hji4z : a1 ≤ 64 → (a0 / 2 ^ a1.toNat) = ji4 := shr_small hji4
  obtain rfl := Option.some.inj H
  go_enter Tryd.func52, Tryd.ntmps52
  go_wp2
  go_ret
  exact ⟨by first | rfl | (simp; done) | (simp only [← hji4] <;> (first | rfl | simp)) | (simp [*]; done), by repeat (first | exact Drawn0.refl _ | apply Drawn0.step)⟩
 rw [if_neg c3] at H
 exact absurd H (by simp)

/-! ### impl_one: function 61 -/
def impl_one.f (a0 : Int) : Option (Int) := if 0 ≤ a0 then (some (shl .i64 1 a0)) else (none)
set_option maxHeartbeats 8000000 in
set_option maxRecDepth 100000 in
theorem impl_one.calls (a0 : Int) (r : Int) (w : World) (h : impl_one.f a0 = some r) :
  Calls Tryd.prog 61 #[.int .i64 a0] w fun e w' => e = .returned (.int .i64 r) ∧ Drawn0 w w' := by
 have H := h
 unfold impl_one.f at H
 clear h
 by_cases c2 : 0 ≤ a0
 ·rw [if_pos c2] at H
  have c2b0 := eq_true c2
  have c2b1 : decide (0 ≤ a0) = true := decide_eq_true c2
  clear c2
  obtain ⟨ji3, hji3⟩ : ∃ j_ : Int, (shl .i64 1 a0) = j_ := ⟨_, rfl⟩
  replace H : (some ji3) = some r := by first | (rw [hji3] at H; exact H) | (simp only [hji3] at H ⊢; exact H)
  have hji3_ : (IntKind.i64.wrap (1 * 2 ^ min a0.toNat 64)) = ji3 := hji3
  have hji3z : a0 ≤ 64 → (IntKind.i64.wrap (1 * 2 ^ a0.toNat)) = ji3 := shl_small hji3
  have hji3u : (IntKind.i64.wrap (2 ^ min a0.toNat 64)) = ji3 := by have h_ := hji3_; rw [Int.one_mul] at h_; exact h_
  have hji3v : a0 ≤ 64 → (IntKind.i64.wrap (2 ^ a0.toNat)) = ji3 := fun hle_ => by have h_ := hji3z hle_; rw [Int.one_mul] at h_; exact h_
  have hji3y : (wrap64 (1 * 2 ^ min a0.toNat 64)) = ji3 := (i64_w _).symm.trans hji3_
  have hji3x : a0 ≤ 64 → (wrap64 (1 * 2 ^ a0.toNat)) = ji3 := fun h_ => (i64_w _).symm.trans (hji3z h_)
  obtain rfl := Option.some.inj H
  go_enter Tryd.func61, Tryd.ntmps61
  go_wp2
  go_ret
  exact ⟨by first | rfl | (simp; done) | (simp only [← hji3] <;> (first | rfl | simp)) | (simp [*]; done), by repeat (first | exact Drawn0.refl _ | apply Drawn0.step)⟩
 rw [if_neg c2] at H
 exact absurd H (by simp)

-- NOT PRINTED: function 74 (slices_IndexFunc_int64_int64)

-- NOT PRINTED: function 65 (slices_ContainsFunc_int64_int64)

/-! ### impl_allIn: function 69: a contract of our own -/
def impl_allIn.f (l0 : List Int) (a1 a2 : Int) : Option Bool := some (l0.all fun x => decide (a1 ≤ x ∧ x ≤ a2))
theorem allIn_pred (l : List Int) (lo hi : Int) (B : Nat) (w : World) (hB : B + 1 < w.heap.size) (h1 : w.cell? ⟨B, 0, none⟩ = some (.int .i64 lo)) (h2 : w.cell? ⟨B + 1, 0, none⟩ = some (.int .i64 hi)) :
  PredOf 76 #[.pointer (some ⟨B, 0, none⟩), .pointer (some ⟨B + 1, 0, none⟩)] (fun x => !decide (lo ≤ x ∧ x ≤ hi)) w l := fun W x _ hb => by
 have hc1 : W.cell? ⟨B, 0, none⟩ = some (.int .i64 lo) := (hb.cell (p := ⟨B, 0, none⟩) (by simp; omega)).trans h1
 have hc2 : W.cell? ⟨B + 1, 0, none⟩ = some (.int .i64 hi) := (hb.cell (p := ⟨B + 1, 0, none⟩) (by simpa using hB)).trans h2
 clear h1 h2 hb
 show Calls Tryd.prog 76 #[.int .i64 x, .pointer (some ⟨B, 0, none⟩), .pointer (some ⟨B + 1, 0, none⟩)] W _
 by_cases c1 : lo ≤ x <;> by_cases c2 : x ≤ hi
 all_goals
  go_enter Tryd.func76, Tryd.ntmps76
  go_wp2
  go_ret
  exact ⟨by simp [c1, c2], kW _ _⟩
theorem impl_allIn.calls (A0 : Option Addr) (c0 : Nat) (l0 : List Int) (a1 : Int) (a2 : Int) (r : Bool) (w : World) (hr0 : Kd.C (Kd.int .i64) w A0 l0.length l0) (hc0 : l0.length ≤ c0) (h : impl_allIn.f l0 a1 a2 = some r) :
  Calls Tryd.prog 69 #[.slice A0 l0.length c0, .int .i64 a1, .int .i64 a2] w fun e w' => e = .returned (.bool r) ∧ Below w.heap.size w w' := by
 have hW : Below w.heap.size w ((w.alloc (.cells #[.int .i64 a1] 2)).alloc (.cells #[.int .i64 a2] 2)) := zB (zB (kW _ w) _) _
 have eg : ∀ args w, (callFunc 76 args).run Tryd.prog w = .ok (.enter 76 args) w := enters_fn Tryd.func76 (by kernel_rfl) rfl
 have hcon := containsFunc_any A0 c0 l0 76 #[.pointer (some ⟨w.heap.size, 0, none⟩), .pointer (some ⟨w.heap.size + 1, 0, none⟩)] (fun x => !decide (a1 ≤ x ∧ x ≤ a2)) _ eg
  (allIn_pred l0 a1 a2 w.heap.size ((w.alloc (.cells #[.int .i64 a1] 2)).alloc (.cells #[.int .i64 a2] 2)) (by simp) (by simp) (by simp)) (kO hr0 hW)
 have hr : (!(l0.any fun x => !decide (a1 ≤ x ∧ x ≤ a2))) = r := by
  have := Option.some.inj h
  rw [← this, List.all_eq_not_any_not]
 clear h hr0 eg
 generalize (l0.any fun x => !decide (a1 ≤ x ∧ x ≤ a2)) = b at hcon hr
 subst hr
 replace hW := zA hW
 go_enter Tryd.func69, Tryd.ntmps69
 go_wp2_with fail
 refine hcon.mono ?_
 rintro e w' ⟨rfl, hb⟩
 replace hb := zA hb
 clear hcon
 go_wp2
 go_ret
 exact ⟨rfl, kQ hW.out hb.out⟩

/-! ### impl_IsRelation: function 59 -/
def impl_IsRelation.f (l0 : List Int) : Option (Bool) := if (l0.length : Int) ≤ 24 then ((impl_length_int64.f l0).bind fun t274 => ((impl_one.f t274).bind fun t275 => ((impl_allIn.f l0 0 (wrap64 (t275 - 1))).bind fun t276 => (some t276)))) else (some false)
set_option maxHeartbeats 8000000 in
set_option maxRecDepth 100000 in
theorem impl_IsRelation.calls (A0 : Option Addr) (c0 : Nat) (l0 : List Int) (r : Bool) (w : World) (hr0 : Kd.C (Kd.int .i64) w A0 l0.length l0) (hc0 : l0.length ≤ c0) (h : impl_IsRelation.f l0 = some r) :
  Calls Tryd.prog 59 #[.slice A0 l0.length c0] w fun e w' => e = .returned (.bool r) ∧ Below w.heap.size w w' := by
 have HR0 := zA hr0
 have HC0 := zA hc0
 clear hr0 hc0
 have HB := zA (kW w.heap.size w)
 have H := h
 unfold impl_IsRelation.f at H
 clear h
 by_cases c2 : (l0.length : Int) ≤ 24
 ·rw [if_pos c2] at H
  have c2b0 : decide ((l0.length : Int) ≤ 24) = true := decide_eq_true c2
  have c2b1 : decide (l0.length ≤ 24) = true := decide_eq_true (by omega)
  clear c2
  obtain ⟨t274, A3, H⟩ := zb H
  try dsimp only at H
  obtain ⟨t275, A4, H⟩ := zb H
  try dsimp only at H
  obtain ⟨t276, A5, H⟩ := zb H
  try dsimp only at H
  obtain rfl := Option.some.inj H
  go_enter Tryd.func59, Tryd.ntmps59
  go_wp2_with (first | (go_at_call 51; (with_reducible refine (impl_length_int64.calls _ _ l0 t274 _ ?side1 ?side2 A3.out).mono ?_); (case side1 => exact zS HR0.out); (case side2 => exact HC0.out); rintro e w' ⟨rfl, ⟨nd, rfl⟩⟩) | (go_at_call 61; (with_reducible refine (impl_one.calls t274 t275 _ A4.out).mono ?_); rintro e w' ⟨rfl, ⟨nd, rfl⟩⟩) | (go_at_call 69; (with_reducible refine (impl_allIn.calls _ _ l0 0 (wrap64 (t275 - 1)) t276 _ ?side1 ?side2 A5.out).mono ?_); (case side1 => exact zS HR0.out); (case side2 => exact HC0.out); rintro e w6 ⟨rfl, hb⟩; replace HB := zA (kQ (zQ HB.out) hb); (try clear hb)))
  go_ret
  exact ⟨zr, zQ HB.out⟩
 rw [if_neg c2] at H
 have c2b0 : decide ((l0.length : Int) ≤ 24) = false := decide_eq_false c2
 have c2b1 : decide (l0.length ≤ 24) = false := decide_eq_false (by omega)
 clear c2
 obtain rfl := Option.some.inj H
 go_enter Tryd.func59, Tryd.ntmps59
 go_wp2
 go_ret
 exact ⟨zr, zQ HB.out⟩

/-! ### bits_TrailingZeros64: function 79: a contract of our own -/
def bits_TrailingZeros64.f (a0 : Int) : Option Int := if 0 ≤ a0 ∧ a0 < 18446744073709551616 then some (Lib.ctz 64 a0.toNat : Int) else none

set_option maxHeartbeats 1000000 in
theorem tz64_core (x k idx : Nat) (w : World) (hx0 : ((x : Int) == 0) = false)
  (key : IntKind.u64.wrap (bits BinOp.and IntKind.u64 (x : Int) (IntKind.u64.wrap (-(x : Int))) * 285870213051353865) / 288230376151711744 = (idx : Int))
  (hi : idx < 64) (hk : k < 64) (hcell : w.cell? ⟨0, idx, none⟩ = some (.int .u8 k)) :
  Calls Tryd.prog 79 #[.int .u64 x] w fun e w' => e = .returned (.int .i64 k) ∧ w = w' := by
 go_enter Tryd.func79, Tryd.ntmps79
 go_wp2_with (simp only [key])
 go_ret
 exact ⟨rfl, rfl⟩
theorem tz64_zero (w : World) : Calls Tryd.prog 79 #[.int .u64 0] w fun e w' => e = .returned (.int .i64 64) ∧ w = w' := by
 go_enter Tryd.func79, Tryd.ntmps79
 go_wp2
 go_ret
 exact ⟨rfl, rfl⟩
theorem tz64_key (x a : Nat) (hx : x < 18446744073709551616) (hx0 : x ≠ 0) (hlow : x &&& (18446744073709551616 - x) = a) :
  IntKind.u64.wrap (bits BinOp.and IntKind.u64 (x : Int) (IntKind.u64.wrap (-(x : Int))) * 285870213051353865) / 288230376151711744 = ((a * 285870213051353865 % 18446744073709551616 / 288230376151711744 : Nat) : Int) := by
 have e1 : IntKind.u64.wrap (-(x : Int)) = ((18446744073709551616 - x : Nat) : Int) := by rw [IntKind.wrap_u64]; omega
 rw [e1, bits_and_u64_nat x _ hx (by omega), hlow, IntKind.wrap_u64]
 omega
theorem bits_TrailingZeros64.calls (a0 : Int) (r : Int) (w : World) (hT : TabW w) (h : bits_TrailingZeros64.f a0 = some r) :
  Calls Tryd.prog 79 #[.int .u64 a0] w fun e w' => e = .returned (.int .i64 r) ∧ Drawn0 w w' := by
 unfold bits_TrailingZeros64.f at h
 split at h
 ·rename_i hr
  obtain ⟨x, rfl⟩ := Int.eq_ofNat_of_zero_le hr.1
  rw [Int.toNat_natCast] at h
  injection h with h
  subst h
  by_cases hx0 : x = 0
  ·subst hx0
   exact (tz64_zero w).mono fun e w' ⟨he, hw⟩ => ⟨he, ⟨0, hw.symm⟩⟩
  obtain ⟨hlow, hk⟩ := Lib.lowest_bit 64 x hx0 (by omega)
  obtain ⟨hi, htab⟩ := Lib.deBruijn64_at _ hk
  have hcell := hT _ hi
  rw [htab] at hcell
  exact (tz64_core x _ _ w (by simp; omega) (tz64_key x _ (by omega) hx0 hlow) hi hk hcell).mono fun e w' ⟨he, hw⟩ => ⟨he, ⟨0, hw.symm⟩⟩
 cases h

/-! ### impl_least: function 75 -/
def impl_least.f (a0 : Int) : Option (Int) := (bits_TrailingZeros64.f (IntKind.u64.wrap (a0))).bind fun t277 => (some t277)
set_option maxHeartbeats 8000000 in
set_option maxRecDepth 100000 in
theorem impl_least.calls (a0 : Int) (r : Int) (w : World) (hT : TabW w) (h : impl_least.f a0 = some r) :
  Calls Tryd.prog 75 #[.int .i64 a0] w fun e w' => e = .returned (.int .i64 r) ∧ Drawn0 w w' := by
 have HT := zA hT
 clear hT
 have H := h
 unfold impl_least.f at H
 clear h
 obtain ⟨t277, A2, H⟩ := zb H
 try dsimp only at H
 obtain rfl := Option.some.inj H
 go_enter Tryd.func75, Tryd.ntmps75
 go_wp2_with (first | (refine zO (some 5) Tryd.func79 #[.int .u64 (IntKind.u64.wrap (a0))] ?_; (with_reducible refine (bits_TrailingZeros64.calls (IntKind.u64.wrap (a0)) t277 _ ?side1 A2.out).mono ?_); (case side1 => repeat (first | (with_reducible first | exact HT.out | apply TabW.drewN | apply TabW.drew | apply TabW.alloc) | exact HT.out)); rintro e w' ⟨rfl, ⟨nd, rfl⟩⟩; refine ⟨_, rfl, ?_⟩))
 go_ret
 exact ⟨zs, by repeat (first | exact Drawn0.refl _ | apply Drawn0.step)⟩

end Go.Proofs.YtemdfjdmokbcoaaDoor.PAll
