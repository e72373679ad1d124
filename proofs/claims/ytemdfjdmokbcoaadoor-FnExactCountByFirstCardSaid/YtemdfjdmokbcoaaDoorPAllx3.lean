-- Printed by a program of the session (wip/tools/pgen.py) out of the translation. Not trusted: Lean checks it.
import Derived.Test.YtemdfjdmokbcoaaDoorPAllx0
import Derived.Test.YtemdfjdmokbcoaaDoorPAllx1
import Derived.Test.YtemdfjdmokbcoaaDoorPAllx2
namespace Go.Proofs.YtemdfjdmokbcoaaDoor.PAll
open Go.RowKit Go.Proofs.YtemdfjdmokbcoaaDoor.T Go.Proofs.YtemdfjdmokbcoaaDoorW.PrintWords Go.Proofs.YtemdfjdmokbcoaaDoorW.PrintLast Go.Proofs.YtemdfjdmokbcoaaDoorW.PrintMore
attribute [local go_sem] max2_int min2_int max_two min_two max_three min_three max_four min_four   -- for this text's walks alone
set_option linter.unusedVariables false
set_option linter.unusedSimpArgs false

/-! ### spec_l06First: function 37 -/
mutual
def spec_l06First.l0 : Nat → Int → List Int → List (List Int) → Int → Int → List Int → Option ((List (List Int)))
 | 0, _, _, _, _, _, _ => none
 | k + 1, x1, x5, x6, x7, x196000, x196001 => if x7 ≤ x1 then (if 0 ≤ (x5.length : Int) then (if ((x5.length : Int) : Int).toNat ≤ 35184372088832 then ((some (List.replicate ((x5.length : Int) : Int).toNat 0 : List Int)).bind fun y202 => (if x7 = 0 then (if 0 < (y202.length : Int) then (if x6.length < 5864062014805 then (spec_l06First.l0 k x1 x5 (x6 ++ [(y202.set (0 : Int).toNat 1)]) (wrap64 (x7 + 1)) x196000 x196001) else (none)) else (none)) else (if x6.length < 5864062014805 then (spec_l06First.l0 k x1 x5 (x6 ++ [y202]) (wrap64 (x7 + 1)) x196000 x196001) else (none)))) else (none)) else (none)) else (if 0 ≤ x1 then (if x1 < (x6.length : Int) then ((spec_l01Own.f (rd_L1 x6 x1)).bind fun t213 => (spec_l06First.l1 k x1 x5 x6 (([t213] : List (List Int))) 1 x196000 x196001)) else (none)) else (none))
def spec_l06First.l1 : Nat → Int → List Int → List (List Int) → List (List Int) → Int → Int → List Int → Option ((List (List Int)))
 | 0, _, _, _, _, _, _, _ => none
 | k + 1, x1, x5, x6, x9, x10, x196000, x196001 => if x10 ≤ x1 then (spec_l06First.l2 k x1 x5 x6 x9 x10 (([] : List (List Int))) 0 x196000 x196001) else (some x9)
def spec_l06First.l2 : Nat → Int → List Int → List (List Int) → List (List Int) → Int → List (List Int) → Int → Int → List Int → Option ((List (List Int)))
 | 0, _, _, _, _, _, _, _, _, _ => none
 | k + 1, x1, x5, x6, x9, x10, x11, x12, x196000, x196001 => if x12 ≤ x1 then (if 0 ≤ (x5.length : Int) then (if ((x5.length : Int) : Int).toNat ≤ 35184372088832 then (spec_l06First.l3 k x1 x5 x6 x9 x10 x11 x12 (List.replicate ((x5.length : Int) : Int).toNat 0) 1 x196000 x196001) else (none)) else (none)) else (if 0 ≤ x1 then (if x1 < (x11.length : Int) then ((spec_l01Own.f (rd_L1 x11 x1)).bind fun t223 => (if x9.length < 5864062014805 then (spec_l06First.l1 k x1 x5 x11 (x9 ++ [t223]) (wrap64 (x10 + 1)) x196000 x196001) else (none))) else (none)) else (none))
def spec_l06First.l3 : Nat → Int → List Int → List (List Int) → List (List Int) → Int → List (List Int) → Int → List Int → Int → Int → List Int → Option ((List (List Int)))
 | 0, _, _, _, _, _, _, _, _, _, _, _ => none
 | k + 1, x1, x5, x6, x9, x10, x11, x12, x13, x14, x196000, x196001 => if x14 < (x5.length : Int) then (if 0 ≤ x14 then ((spec_l01Bits.f k (rd x5 x14)).bind fun t236 => (if (wrap64 (x12 - t236)) < 0 then (spec_l06First.l3 k x1 x5 x6 x9 x10 x11 x12 x13 (wrap64 (x14 + 1)) x196000 x196001) else ((spec_l06Reach.f k x196000 x196001 (rd x5 x14)).bind fun t238 => (spec_l06First.l4 k x1 x5 x6 x9 x10 x11 x12 x13 x14 (wrap64 (x12 - t236)) t238 0 x196000 x196001)))) else (none)) else (if x11.length < 5864062014805 then (spec_l06First.l2 k x1 x5 x6 x9 x10 (x11 ++ [x13]) (wrap64 (x12 + 1)) x196000 x196001) else (none))
def spec_l06First.l4 : Nat → Int → List Int → List (List Int) → List (List Int) → Int → List (List Int) → Int → List Int → Int → Int → Int → Int → Int → List Int → Option ((List (List Int)))
 | 0, _, _, _, _, _, _, _, _, _, _, _, _, _, _ => none
 | k + 1, x1, x5, x6, x9, x10, x11, x12, x13, x14, x15, x16, x17, x196000, x196001 => if x17 < (x5.length : Int) then (if 0 ≤ x17 then (if (Go.bits .or .i64 (rd x5 x17) x16) = x16 then (if x17 > 0 then (if 0 ≤ x14 then (if x14 < (x13.length : Int) then (if 0 ≤ x15 then (if x15 < (x6.length : Int) then (if x17 < ((rd_L1 x6 x15).length : Int) then (spec_l06First.l4 k x1 x5 x6 x9 x10 x11 x12 (x13.set (x14 : Int).toNat (wrap64 ((rd x13 x14) + (rd (rd_L1 x6 x15) x17)))) x14 x15 x16 (wrap64 (x17 + 1)) x196000 x196001) else (none)) else (none)) else (none)) else (none)) else (none)) else (if x10 = 1 then (if 0 ≤ x14 then (if x14 < (x13.length : Int) then (if 0 ≤ x15 then (if x15 < (x6.length : Int) then (if x17 < ((rd_L1 x6 x15).length : Int) then (spec_l06First.l4 k x1 x5 x6 x9 x10 x11 x12 (x13.set (x14 : Int).toNat (wrap64 ((rd x13 x14) + (rd (rd_L1 x6 x15) x17)))) x14 x15 x16 (wrap64 (x17 + 1)) x196000 x196001) else (none)) else (none)) else (none)) else (none)) else (none)) else (spec_l06First.l4 k x1 x5 x6 x9 x10 x11 x12 x13 x14 x15 x16 (wrap64 (x17 + 1)) x196000 x196001))) else (spec_l06First.l4 k x1 x5 x6 x9 x10 x11 x12 x13 x14 x15 x16 (wrap64 (x17 + 1)) x196000 x196001)) else (none)) else (spec_l06First.l3 k x1 x5 x6 x9 x10 x11 x12 x13 (wrap64 (x14 + 1)) x196000 x196001)
end
def spec_l06First.f (k : Nat) (a0_0 : Int) (l0_1 : List Int) (a1 : Int) : Option ((List (List Int))) := (spec_l02Steps.f k a0_0 l0_1).bind fun t196 => (spec_l06First.l0 k a1 t196 (([] : List (List Int))) 0 a0_0 l0_1)

def spec_l06First.T29 : Bool × List (List Nat × List Nat) := (true, [([], []), ([], []), ([], []), ([], []), ([2, 3], [2, 3]), ([4], [4]), ([], []), ([], []), ([6, 7], [6, 7]), ([8], [8]), ([], []), ([9, 10], [9, 10]), ([11], [11]), ([5, 12], [5, 12]), ([0, 1, 0, 1, 2, 3, 4, 5, 6, 7, 8, 9, 10, 11, 12, 13], [0, 1]), ([14, 13, 0, 1, 2, 3, 4, 5, 6, 7, 8, 9, 10, 11, 12, 13], [13, 14])])
def spec_l06First.B29 : List Nat := [0, 0, 0, 0, 12, 28, 0, 0, 192, 448, 0, 1984, 4032, 8188, 16383, 32767]
theorem spec_l06First.tab29 : rtab .any (opsOf Tryd.f37 29) = spec_l06First.T29 := by kernel_rfl
theorem spec_l06First.bits29 : waitsOk spec_l06First.T29.2 spec_l06First.B29 = true := by kernel_rfl
set_option maxHeartbeats 8000000 in
set_option maxRecDepth 100000 in
theorem spec_l06First.calls (k : Nat) (a0_0 : Int) (A0_1 : Option Addr) (c0_1 : Nat) (l0_1 : List Int) (a1 : Int) (r : List (List Int)) (w : World) (hr0_1 : Kd.C (Kd.int .i64) w A0_1 l0_1.length l0_1) (hc0_1 : l0_1.length ≤ c0_1) (h : spec_l06First.f k a0_0 l0_1 a1 = some r) :
  Calls Tryd.prog 37 #[.agg #[.int .i64 a0_0, .slice A0_1 l0_1.length c0_1], .int .i64 a1] w fun e w' => ∃ v0_ : Value, e = .returned (v0_) ∧ Kd.N (Kd.slice 2 (Kd.int .i64)) 22 w' w.heap.size (fun k_ => (w.heap.size ≤ k_)) v0_ r ∧ Below w.heap.size w w' := by
 have hu29 := Tryd.underlying29
 have HR0_1 := zA hr0_1
 have HC0_1 := zA hc0_1
 clear hr0_1 hc0_1
 have HB := zA (kW w.heap.size w)
 have H := h
 unfold spec_l06First.f at H
 clear h
 obtain ⟨t196, A3, H⟩ := zb H
 try dsimp only at H
 obtain ⟨y199, hy199⟩ : ∃ y_ : List (List Int), y_ = (([] : List (List Int))) := ⟨_, rfl⟩
 replace H : (spec_l06First.l0 k a1 t196 y199 0 a0_0 l0_1) = some r := zy hy199 H
 have Ny199 := zA hy199
 clear hy199
 have H' := zA H
 clear H
 go_enter Tryd.func37, Tryd.ntmps37
 go_wp2_with (first | (refine zBE 2 #[.int .i64 a0_0, .slice A0_1 l0_1.length c0_1] 29 ?_; intro gb195 hg w4 hbox hb; have BK195 := zA (hbox); have GW195 := zA (zBH hg HB.out); have GE195 := zA (zBH hg HB.out); replace HB := zA (kQ (zQ HB.out) hb); clear hb hbox hg; obtain ⟨hcz5_0, hcz5_1, hfz5_0, hfz5_1⟩ := zB3 BK195.out) | (refine zO (some 19) Tryd.func36 #[.agg #[.int .i64 a0_0, .slice A0_1 l0_1.length c0_1]] ?_; (with_reducible refine (spec_l02Steps.calls k a0_0 _ _ l0_1 t196 _ ?side1 ?side2 A3.out).mono ?_); (case side1 => exact zS (kO HR0_1.out HB.out)); (case side2 => exact HC0_1.out); rintro e w6 ⟨v197, rfl, ho0, hb⟩; refine ⟨_, rfl, ?_⟩; have HO198 := zA (kI (Kd.R_newM (M := fun k_ => (w.heap.size ≤ k_)) ho0 (kP (zT HB.out GE195.out)) (fun k_ h_ => h_)) (kP (zT HB.out GE195.out))); replace BK195 := zA (zB1 BK195.out hb); replace HB := zA (kQ (zT HB.out GE195.out) hb); (try clear hb); (try clear ho0)) | ((with_reducible refine kS (N := 20) rfl ?_); refine Kd.N_lit (Kd.slice 2 (Kd.int .i64)) _ 22 ?hg (N' := 20) ?hd (xs := ([] : List (List Int))) (inner := []) (ok := (fun k_ => (w.heap.size ≤ k_) ∧ some k_ ≠ (v197 : Value).ownBlock ∧ k_ ≠ gb195)) (okp := (fun k_ => (w.heap.size ≤ k_) ∧ some k_ ≠ (v197 : Value).ownBlock ∧ k_ ≠ gb195)) ?hr ?hp (fun _ hk => hk) ((show ∀ k_ : Nat, (_ : Nat) ≤ k_ → (fun k_ => (w.heap.size ≤ k_) ∧ some k_ ≠ (v197 : Value).ownBlock ∧ k_ ≠ gb195) k_ from fun k_ hk => ⟨(Nat.le_trans (kP (zT HB.out GE195.out)) hk), jF (kH (zP HO198.out)) k_ hk, jE (g := gb195) (o := .cells #[.int .i64 a0_0, .slice A0_1 l0_1.length c0_1] 29 (0, 0)) (zR BK195.out) k_ hk⟩) _ (Nat.le_refl _)) (kW _ _) (Nat.le_refl _) (by simp) ?_; (case hd => rfl); (case hg => rfl); (case hr => first | (go_simp; done) | (go_simp; rfl)); (case hp => exact (Reps.none _ _)); intro v200 w7 ho8 hb hg_ hnew_; clear hg_ hnew_; (first | rw [← Ny199.out] at ho8 | (simp only [Int.reduceToNat] at ho8; rw [← Ny199.out] at ho8)); replace HO198 := zA (kL (zP HO198.out) hb); have HO201 := zA (jN ho8 (kP (zT HB.out GE195.out))); replace BK195 := zA (zB1 BK195.out hb); replace HB := zA (kQ (zT HB.out GE195.out) hb); clear hb ho8))
 go_loopg [6, 7] k (fun kq v6 v7 w' => ∃ (x5_1 : List Int) (x6_1 : List (List Int)) (x7_1 : Int), v7 = .int .i64 x7_1 ∧ Aside0 (spec_l06First.l0 kq a1 x5_1 x6_1 x7_1 a0_0 l0_1 = some r) ∧ Aside0 (kq ≤ k) ∧ Aside0 (Kd.R (Kd.int .i64) 2 w' w.heap.size (fun k_ => (w.heap.size ≤ k_)) v197 x5_1) ∧ Aside0 (Kd.N (Kd.slice 2 (Kd.int .i64)) 22 w' w.heap.size (fun k_ => (w.heap.size ≤ k_) ∧ some k_ ≠ (v197 : Value).ownBlock ∧ k_ ≠ gb195) v6 x6_1) ∧ Aside0 (w'.heap[gb195]? = some (.cells #[.int .i64 a0_0, (.slice A0_1 l0_1.length c0_1)] 29 (0, 0))) ∧ Aside0 (Below w.heap.size w w'))
 case atStart => exact ⟨(t196), (y199), (0), zs, H', ⟨Nat.le_refl _⟩, ⟨zPM HO198.out (fun _ hk => hk.1)⟩, ⟨zPN HO201.out⟩, ⟨zR BK195.out⟩, ⟨zT HB.out GE195.out⟩⟩
 case round =>
  clear H'
  try clear c3
  try clear hcz5_0
  try clear hcz5_1
  try clear hfz5_0
  try clear hfz5_1
  obtain ⟨x5_1, x6_1, x7_1, rfl, HA, HK1, HO_5, HO_6, BK195, HB⟩ := hrel
  cases gk with
  | zero => exact absurd HA.out (by simp [spec_l06First.l0])
  | succ k1 =>
   have H := HA.out
   clear HA
   simp only [spec_l06First.l0] at H
   by_cases c9 : x7_1 ≤ a1
   ·rw [if_pos c9] at H
    have c9b0 : decide (x7_1 ≤ a1) = true := decide_eq_true c9
    clear c9
    by_cases c10 : 0 ≤ (x5_1.length : Int)
    ·rw [if_pos c10] at H
     have c10b0 := eq_true c10
     have c10b1 : decide (0 ≤ (x5_1.length : Int)) = true := decide_eq_true c10
     clear c10
     by_cases c11 : ((x5_1.length : Int) : Int).toNat ≤ 35184372088832
     ·rw [if_pos c11] at H
      have c11b0 := eq_true c11
      have c11b1 : decide (((x5_1.length : Int) : Int).toNat ≤ 35184372088832) = true := decide_eq_true c11
      clear c11
      obtain ⟨y202, hy202⟩ : ∃ y_ : List Int, y_ = (List.replicate ((x5_1.length : Int) : Int).toNat 0) := ⟨_, rfl⟩
      replace H : (if x7_1 = 0 then (if 0 < (y202.length : Int) then (if x6_1.length < 5864062014805 then (spec_l06First.l0 k1 a1 x5_1 (x6_1 ++ [(y202.set (0 : Int).toNat 1)]) (wrap64 (x7_1 + 1)) a0_0 l0_1) else (none)) else (none)) else (if x6_1.length < 5864062014805 then (spec_l06First.l0 k1 a1 x5_1 (x6_1 ++ [y202]) (wrap64 (x7_1 + 1)) a0_0 l0_1) else (none))) = some r := zy hy202 H
      have Ny202 := zA hy202
      clear hy202
      by_cases c12 : x7_1 = 0
      ·rw [if_pos c12] at H
       obtain ⟨c12b0, c12b1⟩ := zT1 c12
       clear c12
       by_cases c13 : 0 < (y202.length : Int)
       ·rw [if_pos c13] at H
        have c13b0 : decide (0 < (y202.length : Int)) = true := decide_eq_true c13
        have c13b1 : decide (0 < y202.length) = true := decide_eq_true (by omega)
        clear c13
        obtain ⟨y205, hy205⟩ : ∃ y_ : List Int, y_ = (y202.set (0 : Int).toNat 1) := ⟨_, rfl⟩
        replace H : (if x6_1.length < 5864062014805 then (spec_l06First.l0 k1 a1 x5_1 (x6_1 ++ [y205]) (wrap64 (x7_1 + 1)) a0_0 l0_1) else (none)) = some r := zy hy205 H
        have Ny205 := zA hy205
        clear hy205
        by_cases c15 : x6_1.length < 5864062014805
        ·rw [if_pos c15] at H
         have LMc15 := zA c15
         clear c15
         obtain ⟨y206, hy206⟩ : ∃ y_ : List (List Int), y_ = (x6_1 ++ [y205]) := ⟨_, rfl⟩
         replace H : (spec_l06First.l0 k1 a1 x5_1 y206 (wrap64 (x7_1 + 1)) a0_0 l0_1) = some r := zy hy206 H
         have Ny206 := zA hy206
         clear hy206
         have H' := zA H
         clear H
         obtain ⟨Ao16, co16, eo16⟩ := kM HO_5.out
         subst eo16
         go_wp2_with (first | ((with_reducible refine kS (N := 28) rfl ?_); refine Kd.R_make (Kd.int .i64) _ 2 rfl (N := 28) rfl 22 _ _ rfl (x5_1.length : Int) rfl rfl Tryd.underlying22 (.int .i64 0) 8 info2 rfl (by decide) (by omega) 0 (ok := fun _ => True) (okp := fun _ => True) rfl (fun _ hk => hk) trivial (zd) (Nat.le_trans (Nat.mul_le_mul_right _ (zd : (x5_1.length : Int).toNat ≤ 35184372088832)) (by omega)) (kW _ _) (Nat.le_refl _) ?_; intro v203 w17 ho18 hb hg_ hnew_; clear hg_ hnew_; (first | rw [← Ny202.out] at ho18 | (simp only [Int.reduceToNat] at ho18; rw [← Ny202.out] at ho18)); replace HO_6 := zA (Kd.N_elder' (zPN HO_6.out) (kC ho18) hb); have HO204 := zA (kI (kF (Kd.R_newM (M := fun k_ => (w.heap.size ≤ k_)) ho18 (kP (zT HB.out GE195.out)) (fun k_ h_ => h_)) (kH (zP HO_5.out))) (kP (zT HB.out GE195.out))); replace HO_5 := zA (kE (zP HO_5.out) (kC ho18) hb); replace BK195 := zA (zB1 BK195.out hb); replace HB := zA (kQ (zT HB.out GE195.out) hb); clear hb ho18; have p14 : 0 ≤ (0 : Int) := (by omega); have q14 : (0 : Int) < ((y202.length : Int) : Int) := zd; have qi14 : (0 < y202.length) = True := eq_true (by omega); obtain ⟨go14, co14, eo14, gb14, gl14, cl14, HG14⟩ := Kd.R_form HO204.out (by omega); (first | cases eo14 | (injection eo14 with ea_ en_ ec_; (first | subst ea_ | (injection ea_ with ea_; subst ea_)); subst ec_; clear en_)); have GB14 := zA gb14; have GG14 := zA HG14; clear gb14 gl14 HG14; obtain ⟨hx14_0, hf14_0⟩ := Kd.R_celln 0 HO204.out (0 : Int) p14 q14; (try rw [show ((0 : Int)).toNat = 0 from rfl] at hx14_0); (try simp only [Nat.reduceMul, Nat.zero_mul, Nat.zero_add, Nat.reduceAdd] at hx14_0); (try rw [show ((0 : Int)).toNat = 0 from rfl] at hf14_0); (try simp only [Nat.reduceMul, Nat.zero_mul, Nat.zero_add, Nat.reduceAdd] at hf14_0); replace p14 := eq_true p14; replace q14 := eq_true q14; have n_ := zA (kA (ok' := (fun k_ => (w.heap.size ≤ k_) ∧ some k_ ≠ (.slice Ao16 x5_1.length co16 : Value).ownBlock)) HO204.out (fun k_ hk => ⟨hk.1.1, hk.2⟩)); clear HO204; have HO204 := n_; clear n_; obtain ⟨hy19_, hz19_⟩ := Kd.R_celln 0 HO204.out (0 : Int) (by omega) (zd); (try simp only [Int.reduceToNat, Int.toNat_zero, Int.toNat_ofNat, Nat.reduceMul, Nat.zero_mul, Nat.zero_add] at hy19_ hz19_); (try rw [show ((0 : Int)).toNat = 0 from rfl] at hy19_); (try rw [show ((0 : Int)).toNat = 0 from rfl] at hz19_); have HP19 := Kd.R_putg HO204.out (0 : Int) 1) | ((with_reducible refine gate_store (t := 2) (p := 32) rfl ?_); refine store_event (t := 2) (p := 32) (v := ?vo_w20) (w1 := (w17.setCell ⟨go14, (0 : Int).toNat, none⟩ (.int .i64 1))) ?hg ?ho ?hn ?hr ?_; (case ho => rfl); (case hg => rfl); (case hn => rfl); (case hr => first | (go_simp; done) | (go_simp; rfl)); intro w20 hw; have hg : w17.grownBy w20 (some go14) := (by rw [hw]; exact HP19.2); have hp_ : Kd.R (Kd.int .i64) 2 w20 w.heap.size (fun k_ => (w.heap.size ≤ k_) ∧ some k_ ≠ (.slice Ao16 x5_1.length co16 : Value).ownBlock) (.slice (some ⟨go14, 0, none⟩) y202.length co14) y205 := (by rw [hw, Ny205.out]; exact HP19.1); clear HP19; replace HO_5 := zA (Kd.R_after (v := (.slice (some ⟨go14, 0, none⟩) y202.length co14)) (v1 := (.slice (some ⟨go14, 0, none⟩) y202.length co14)) (ok := (fun k_ => (w.heap.size ≤ k_))) (zP HO_5.out) hg (.inl rfl)); replace HO_6 := zA (Kd.N_afterv (v := (.slice (some ⟨go14, 0, none⟩) y202.length co14)) (v1 := (.slice (some ⟨go14, 0, none⟩) y202.length co14)) (ok := (fun k_ => (w.heap.size ≤ k_) ∧ some k_ ≠ (.slice Ao16 x5_1.length co16 : Value).ownBlock ∧ k_ ≠ gb195)) (zPN HO_6.out) hg (.inl rfl)); replace BK195 := zA (blk_grown (g := gb195) (o := .cells #[.int .i64 a0_0, .slice A0_1 l0_1.length c0_1] 29 (0, 0)) (zR BK195.out) hg (Kd.R_ne HO204.out BK195.out (by decide))); replace HO204 := zA (hp_); replace HB := zA ((by rw [hw]; exact zE (HB.out) GB14.out : Below w.heap.size w w20)); clear hg hw hp_) | ((with_reducible refine gate_builtin (b := .append) (xs := #[.tmp 33, .tmp 35]) rfl ?_); at_builtin; refine Kd.N_append (Kd.slice 2 (Kd.int .i64)) (w0 := w) w.heap.size rfl (.tmp 33) (.tmp 35) 26 22 (.slice none 0 0) 24 rfl Tryd.underlying26 info22 rfl (by decide) (by omega) u6 x6_1 y205 [.slice (some ⟨go14, 0, none⟩) y202.length co14] (fun k_ => (w.heap.size ≤ k_) ∧ some k_ ≠ (.slice Ao16 x5_1.length co16 : Value).ownBlock ∧ k_ ≠ gb195) (fun k_ => ((fun k_ => (w.heap.size ≤ k_) ∧ some k_ ≠ (.slice Ao16 x5_1.length co16 : Value).ownBlock ∧ k_ ≠ gb195)) k_ ∧ some k_ ≠ (u6 : Value).ownBlock) rfl rfl ?aP (fun _ hk => hk) ?aF ?aO ?aB ?aS ?aL ?_; (case aP => have e_ : y202.length = y205.length := (by rw [Ny205.out, List.length_set]); have HQ_ := HO204.out; rw [e_] at HQ_ ⊢; exact (Kd.FK_slice_mk (kB (kA (ok' := (fun k_ => ((fun k_ => (w.heap.size ≤ k_) ∧ some k_ ≠ (.slice Ao16 x5_1.length co16 : Value).ownBlock ∧ k_ ≠ gb195)) k_ ∧ some k_ ≠ (u6 : Value).ownBlock)) (kD (Kd.R_apart' (HQ_) (Kd.N_typed HO_6.out) (by decide)) BK195.out (by decide)) (fun k_ hk => ⟨⟨hk.1.1.1, ⟨hk.1.1.2, hk.2⟩⟩, hk.1.2⟩))).2.1 (Kd.R_F (kA (ok' := (fun k_ => ((fun k_ => (w.heap.size ≤ k_) ∧ some k_ ≠ (.slice Ao16 x5_1.length co16 : Value).ownBlock ∧ k_ ≠ gb195)) k_ ∧ some k_ ≠ (u6 : Value).ownBlock)) (kD (Kd.R_apart' (HQ_) (Kd.N_typed HO_6.out) (by decide)) BK195.out (by decide)) (fun k_ hk => ⟨⟨hk.1.1.1, ⟨hk.1.1.2, hk.2⟩⟩, hk.1.2⟩))))); (case aB => exact (zT HB.out GE195.out)); (case aF => exact (fun k_ hk => ⟨(Nat.le_trans (kP (zT HB.out GE195.out)) hk), jF (kH (zP HO_5.out)) k_ hk, jE (g := gb195) (o := .cells #[.int .i64 a0_0, .slice A0_1 l0_1.length c0_1] 29 (0, 0)) (zR BK195.out) k_ hk⟩)); (case aO => exact (by (with_reducible repeat (first | apply Kd.N_alloc | apply Kd.N_drewN | apply Kd.N_drew)); exact Kd.N_mono HO_6.out (fun _ hk => ⟨hk.1.1, ⟨hk.1.2.1, hk.1.2.2⟩⟩))); (case aS => exact (kP (zT HB.out GE195.out))); (case aL => have := LMc15.out; omega); intro v207 w21 ho hb hg hat; rw [← Ny206.out] at ho; replace HO_5 := zA (Kd.R_over' (zP HO_5.out) (Kd.N_typed (zPN HO_6.out)) (by decide) hg); replace BK195 := zA (blk_grown (g := gb195) (o := .cells #[.int .i64 a0_0, .slice A0_1 l0_1.length c0_1] 29 (0, 0)) (zR BK195.out) hg (Kd.N_ne HO_6.out BK195.out (by decide))); replace HB := zA (hb); have HO208 := zA (ho); clear HO_6 HO204; clear ho hb hg hat))
         go_roundg k1
         case measure => have := HK1.out; omega
         case rel => exact ⟨(x5_1), (y206), (wrap64 (x7_1 + 1)), zs, H', ⟨by have := HK1.out; omega⟩, ⟨zPM HO_5.out (fun _ hk => hk.1)⟩, ⟨zPN HO208.out⟩, ⟨zR BK195.out⟩, ⟨zT HB.out GE195.out⟩⟩
        rw [if_neg c15] at H
        exact absurd H (by simp)
       rw [if_neg c13] at H
       exact absurd H (by simp)
      rw [if_neg c12] at H
      obtain ⟨c12b0, c12b1⟩ := zT2 c12
      by_cases c22 : x6_1.length < 5864062014805
      ·rw [if_pos c22] at H
       have LMc22 := zA c22
       clear c22
       obtain ⟨y209, hy209⟩ : ∃ y_ : List (List Int), y_ = (x6_1 ++ [y202]) := ⟨_, rfl⟩
       replace H : (spec_l06First.l0 k1 a1 x5_1 y209 (wrap64 (x7_1 + 1)) a0_0 l0_1) = some r := zy hy209 H
       have Ny209 := zA hy209
       clear hy209
       have H' := zA H
       clear H
       obtain ⟨Ao23, co23, eo23⟩ := kM HO_5.out
       subst eo23
       go_wp2_with (first | ((with_reducible refine kS (N := 28) rfl ?_); refine Kd.R_make (Kd.int .i64) _ 2 rfl (N := 28) rfl 22 _ _ rfl (x5_1.length : Int) rfl rfl Tryd.underlying22 (.int .i64 0) 8 info2 rfl (by decide) (by omega) 0 (ok := fun _ => True) (okp := fun _ => True) rfl (fun _ hk => hk) trivial (zd) (Nat.le_trans (Nat.mul_le_mul_right _ (zd : (x5_1.length : Int).toNat ≤ 35184372088832)) (by omega)) (kW _ _) (Nat.le_refl _) ?_; intro v203 w24 ho25 hb hg_ hnew_; clear hg_ hnew_; (first | rw [← Ny202.out] at ho25 | (simp only [Int.reduceToNat] at ho25; rw [← Ny202.out] at ho25)); replace HO_6 := zA (Kd.N_elder' (zPN HO_6.out) (kC ho25) hb); have HO204 := zA (kI (kF (Kd.R_newM (M := fun k_ => (w.heap.size ≤ k_)) ho25 (kP (zT HB.out GE195.out)) (fun k_ h_ => h_)) (kH (zP HO_5.out))) (kP (zT HB.out GE195.out))); replace HO_5 := zA (kE (zP HO_5.out) (kC ho25) hb); replace BK195 := zA (zB1 BK195.out hb); replace HB := zA (kQ (zT HB.out GE195.out) hb); clear hb ho25; obtain ⟨Ao27, co27, eo27⟩ := kM HO204.out; subst eo27) | ((with_reducible refine gate_builtin (b := .append) (xs := #[.tmp 33, .tmp 35]) rfl ?_); at_builtin; refine Kd.N_append (Kd.slice 2 (Kd.int .i64)) (w0 := w) w.heap.size rfl (.tmp 33) (.tmp 35) 26 22 (.slice none 0 0) 24 rfl Tryd.underlying26 info22 rfl (by decide) (by omega) u6 x6_1 y202 [.slice Ao27 y202.length co27] (fun k_ => (w.heap.size ≤ k_) ∧ some k_ ≠ (.slice Ao23 x5_1.length co23 : Value).ownBlock ∧ k_ ≠ gb195) (fun k_ => ((fun k_ => (w.heap.size ≤ k_) ∧ some k_ ≠ (.slice Ao23 x5_1.length co23 : Value).ownBlock ∧ k_ ≠ gb195)) k_ ∧ some k_ ≠ (u6 : Value).ownBlock) rfl rfl ?aP (fun _ hk => hk) ?aF ?aO ?aB ?aS ?aL ?_; (case aP => exact (Kd.FK_slice_mk (kB (kA (ok' := (fun k_ => ((fun k_ => (w.heap.size ≤ k_) ∧ some k_ ≠ (.slice Ao23 x5_1.length co23 : Value).ownBlock ∧ k_ ≠ gb195)) k_ ∧ some k_ ≠ (u6 : Value).ownBlock)) (kD (Kd.R_apart' (HO204.out) (Kd.N_typed HO_6.out) (by decide)) BK195.out (by decide)) (fun k_ hk => ⟨⟨hk.1.1.1.1, ⟨hk.1.1.2, hk.2⟩⟩, hk.1.2⟩))).2.1 (Kd.R_F (kA (ok' := (fun k_ => ((fun k_ => (w.heap.size ≤ k_) ∧ some k_ ≠ (.slice Ao23 x5_1.length co23 : Value).ownBlock ∧ k_ ≠ gb195)) k_ ∧ some k_ ≠ (u6 : Value).ownBlock)) (kD (Kd.R_apart' (HO204.out) (Kd.N_typed HO_6.out) (by decide)) BK195.out (by decide)) (fun k_ hk => ⟨⟨hk.1.1.1.1, ⟨hk.1.1.2, hk.2⟩⟩, hk.1.2⟩))))); (case aB => exact (zT HB.out GE195.out)); (case aF => exact (fun k_ hk => ⟨(Nat.le_trans (kP (zT HB.out GE195.out)) hk), jF (kH (zP HO_5.out)) k_ hk, jE (g := gb195) (o := .cells #[.int .i64 a0_0, .slice A0_1 l0_1.length c0_1] 29 (0, 0)) (zR BK195.out) k_ hk⟩)); (case aO => exact (by (with_reducible repeat (first | apply Kd.N_alloc | apply Kd.N_drewN | apply Kd.N_drew)); exact Kd.N_mono HO_6.out (fun _ hk => ⟨hk.1.1, ⟨hk.1.2.1, hk.1.2.2⟩⟩))); (case aS => exact (kP (zT HB.out GE195.out))); (case aL => have := LMc22.out; omega); intro v210 w26 ho hb hg hat; rw [← Ny209.out] at ho; replace HO_5 := zA (Kd.R_over' (zP HO_5.out) (Kd.N_typed (zPN HO_6.out)) (by decide) hg); replace BK195 := zA (blk_grown (g := gb195) (o := .cells #[.int .i64 a0_0, .slice A0_1 l0_1.length c0_1] 29 (0, 0)) (zR BK195.out) hg (Kd.N_ne HO_6.out BK195.out (by decide))); replace HB := zA (hb); have HO211 := zA (ho); clear HO_6 HO204; clear ho hb hg hat))
       go_roundg k1
       case measure => have := HK1.out; omega
       case rel => exact ⟨(x5_1), (y209), (wrap64 (x7_1 + 1)), zs, H', ⟨by have := HK1.out; omega⟩, ⟨zPM HO_5.out (fun _ hk => hk.1)⟩, ⟨zPN HO211.out⟩, ⟨zR BK195.out⟩, ⟨zT HB.out GE195.out⟩⟩
      rw [if_neg c22] at H
      exact absurd H (by simp)
     rw [if_neg c11] at H
     exact absurd H (by simp)
    rw [if_neg c10] at H
    exact absurd H (by simp)
   rw [if_neg c9] at H
   have c9b0 : decide (x7_1 ≤ a1) = false := decide_eq_false c9
   clear c9
   by_cases c28 : 0 ≤ a1
   ·rw [if_pos c28] at H
    have c28b0 : decide (0 ≤ a1) = true := decide_eq_true c28
    clear c28
    by_cases c29 : a1 < (x6_1.length : Int)
    ·rw [if_pos c29] at H
     have c29b0 : decide (a1 < (x6_1.length : Int)) = true := decide_eq_true c29
     clear c29
     obtain ⟨t213, A30, H⟩ := zb H
     try dsimp only at H
     obtain ⟨y216, hy216⟩ : ∃ y_ : List (List Int), y_ = (([t213] : List (List Int))) := ⟨_, rfl⟩
     replace H : (spec_l06First.l1 k1 a1 x5_1 x6_1 y216 1 a0_0 l0_1) = some r := zy hy216 H
     have Ny216 := zA hy216
     clear hy216
     have H' := zA H
     clear H
     obtain ⟨Ao31, co31, eo31⟩ := Kd.N_slice HO_6.out
     subst eo31
     have p212 : 0 ≤ (a1 : Int) := zd
     have q212 : a1 < (x6_1.length : Int) := zd
     obtain ⟨ad212, A212_0, c212_0, e212, hx212_0, hl212_0, hi212_0⟩ := at_L1 (Kd.N_reads' HO_6.out).2.2 a1 p212 q212
     cases e212
     obtain ⟨ce212, hce212, hMe212, hcc212⟩ := Kd.N_get HO_6.out [] a1 p212 (by first | exact q212 | exact zd | (have e_ := (Kd.N_reads' HO_6.out).1; omega))
     obtain ⟨ua212_0, uc212_0, rfl, ul212_0, ge212_0⟩ := Kd.FK_slice_open hMe212
     have hv212_0 := hcc212 0 _ rfl
     rw [Nat.add_zero, show ((Kd.slice 2 (Kd.int .i64))).sz = 1 from rfl, Nat.mul_one] at hv212_0
     replace hv212_0 := Option.some.inj (hv212_0.symm.trans hx212_0)
     injection hv212_0 with hva_ hvn_ hvc_
     rw [hva_] at ge212_0
     rw [hvc_] at ul212_0
     have HL212_0 := zA (show Kd.V (Kd.int .i64) 2 _ w.heap.size _ _ (rd_L1 x6_1 a1) from Kd.V_mk ul212_0 ge212_0)
     clear hva_ hvn_ hvc_ ge212_0 ul212_0 hcc212 hce212
     have HR212_0 := zA hi212_0
     have HC212_0 := zA hl212_0
     clear hi212_0 hl212_0
     replace p212 := eq_true p212
     replace q212 := eq_true q212
     go_wp2_with (first | (refine zO (some 41) Tryd.func46 #[.slice A212_0 (rd_L1 x6_1 a1).length c212_0] ?_; (with_reducible refine (spec_l01Own.calls _ _ (rd_L1 x6_1 a1) t213 _ ?side1 ?side2 A30.out).mono ?_); (case side1 => repeat (first | exact (by repeat (first | (with_reducible exact HR212_0.out) | (with_reducible refine Kd.C_alloc ?_ _) | (with_reducible refine Kd.C_drewN ?_ _) | (with_reducible refine Kd.C_drew ?_) | exact HR212_0.out)) | (with_reducible refine Kd.C_alloc ?_ _) | (with_reducible refine Kd.C_drewN ?_ _) | (with_reducible refine Kd.C_drew ?_))); (case side2 => exact HC212_0.out); rintro e w32 ⟨v214, rfl, ho0, hb⟩; refine ⟨_, rfl, ?_⟩; replace HO_6 := zA (Kd.N_elder' (zPN HO_6.out) (kC ho0) hb); replace HL212_0 := zA (kK (zPV HL212_0.out) (kC ho0) hb); have HO215 := zA (kI (kF (Kd.R_newM (M := fun k_ => (w.heap.size ≤ k_)) ho0 (kP (zT HB.out GE195.out)) (fun k_ h_ => h_)) (kH (zP HO_5.out))) (kP (zT HB.out GE195.out))); replace HO_5 := zA (kE (zP HO_5.out) (kC ho0) hb); replace BK195 := zA (zB1 BK195.out hb); replace HR212_0 := zA (kO (by repeat (first | (with_reducible exact HR212_0.out) | (with_reducible refine Kd.C_alloc ?_ _) | (with_reducible refine Kd.C_drewN ?_ _) | (with_reducible refine Kd.C_drew ?_) | exact HR212_0.out)) hb); replace HB := zA (kQ (zT HB.out GE195.out) hb); (try clear hb); (try clear ho0); obtain ⟨Ao33, co33, eo33⟩ := kM HO215.out; subst eo33) | ((with_reducible refine kS (N := 42) rfl ?_); refine Kd.N_lit (Kd.slice 2 (Kd.int .i64)) _ 22 ?hg (N' := 42) ?hd (xs := ([t213] : List (List Int))) (inner := [.slice Ao33 t213.length co33]) (ok := (fun k_ => (w.heap.size ≤ k_) ∧ some k_ ≠ (v197 : Value).ownBlock ∧ some k_ ≠ (.slice (some ad212) x6_1.length co31 : Value).ownBlock ∧ k_ ≠ gb195)) (okp := (fun k_ => (w.heap.size ≤ k_) ∧ some k_ ≠ (v197 : Value).ownBlock ∧ some k_ ≠ (.slice (some ad212) x6_1.length co31 : Value).ownBlock ∧ k_ ≠ gb195)) ?hr ?hp (fun _ hk => hk) ((show ∀ k_ : Nat, (_ : Nat) ≤ k_ → (fun k_ => (w.heap.size ≤ k_) ∧ some k_ ≠ (v197 : Value).ownBlock ∧ some k_ ≠ (.slice (some ad212) x6_1.length co31 : Value).ownBlock ∧ k_ ≠ gb195) k_ from fun k_ hk => ⟨(Nat.le_trans (kP (zT HB.out GE195.out)) hk), jF (kH (zP HO_5.out)) k_ hk, jF (jA (zPN HO_6.out)) k_ hk, jE (g := gb195) (o := .cells #[.int .i64 a0_0, .slice A0_1 l0_1.length c0_1] 29 (0, 0)) (zR BK195.out) k_ hk⟩) _ (Nat.le_refl _)) (kW _ _) (Nat.le_refl _) (by simp) ?_; (case hd => rfl); (case hg => rfl); (case hr => first | (go_simp; done) | (go_simp; rfl)); (case hp => exact (Reps.one (show Kd.FK (Kd.slice 2 (Kd.int .i64)) _ _ t213 [.slice Ao33 t213.length co33] from (Kd.FK_slice_mk (kB (kA (ok' := (fun k_ => (w.heap.size ≤ k_) ∧ some k_ ≠ (v197 : Value).ownBlock ∧ some k_ ≠ (.slice (some ad212) x6_1.length co31 : Value).ownBlock ∧ k_ ≠ gb195)) (kD (Kd.R_apart' (HO215.out) (Kd.N_typed HO_6.out) (by decide)) BK195.out (by decide)) (fun k_ hk => ⟨hk.1.1.1.1, ⟨hk.1.1.2, ⟨hk.1.2, hk.2⟩⟩⟩))).2.1 (Kd.R_F (kA (ok' := (fun k_ => (w.heap.size ≤ k_) ∧ some k_ ≠ (v197 : Value).ownBlock ∧ some k_ ≠ (.slice (some ad212) x6_1.length co31 : Value).ownBlock ∧ k_ ≠ gb195)) (kD (Kd.R_apart' (HO215.out) (Kd.N_typed HO_6.out) (by decide)) BK195.out (by decide)) (fun k_ hk => ⟨hk.1.1.1.1, ⟨hk.1.1.2, ⟨hk.1.2, hk.2⟩⟩⟩))))) (Reps.none _ _))); intro v217 w34 ho35 hb hg_ hnew_; clear hg_ hnew_; (first | rw [← Ny216.out] at ho35 | (simp only [Int.reduceToNat] at ho35; rw [← Ny216.out] at ho35)); replace HO_5 := zA (kL (zP HO_5.out) hb); replace HO_6 := zA (Kd.N_elder' (zPN HO_6.out) (Kd.N_base ho35) hb); replace HL212_0 := zA (kK (zPV HL212_0.out) (Kd.N_base ho35) hb); have HO218 := zA (jN ho35 (kP (zT HB.out GE195.out))); replace BK195 := zA (zB1 BK195.out hb); replace HR212_0 := zA (kO (by repeat (first | (with_reducible exact HR212_0.out) | (with_reducible refine Kd.C_alloc ?_ _) | (with_reducible refine Kd.C_drewN ?_ _) | (with_reducible refine Kd.C_drew ?_) | exact HR212_0.out)) hb); replace HB := zA (kQ (zT HB.out GE195.out) hb); clear HO215; clear hb ho35))
     go_loopg [6, 9, 10] k1 (fun kq v6 v9 v10 w' => ∃ (x5_2 : List Int) (x6_2 : List (List Int)) (x9_2 : List (List Int)) (x10_2 : Int), v10 = .int .i64 x10_2 ∧ Aside0 (spec_l06First.l1 kq a1 x5_2 x6_2 x9_2 x10_2 a0_0 l0_1 = some r) ∧ Aside0 (kq ≤ k1) ∧ Aside0 (Kd.R (Kd.int .i64) 2 w' w.heap.size (fun k_ => (w.heap.size ≤ k_)) v197 x5_2) ∧ Aside0 (Kd.N (Kd.slice 2 (Kd.int .i64)) 22 w' w.heap.size (fun k_ => (w.heap.size ≤ k_) ∧ some k_ ≠ (v197 : Value).ownBlock ∧ some k_ ≠ (v9 : Value).ownBlock ∧ k_ ≠ gb195) v6 x6_2) ∧ Aside0 (Kd.N (Kd.slice 2 (Kd.int .i64)) 22 w' w.heap.size (fun k_ => (w.heap.size ≤ k_) ∧ some k_ ≠ (v197 : Value).ownBlock ∧ some k_ ≠ (v6 : Value).ownBlock ∧ k_ ≠ gb195) v9 x9_2) ∧ Aside0 (w'.heap[gb195]? = some (.cells #[.int .i64 a0_0, (.slice A0_1 l0_1.length c0_1)] 29 (0, 0))) ∧ Aside0 (Below w.heap.size w w'))
     case atStart => exact ⟨(x5_1), (x6_1), (y216), (1), zs, H', ⟨Nat.le_refl _⟩, ⟨zPM HO_5.out (fun _ hk => hk.1)⟩, ⟨by (with_reducible repeat (first | apply Kd.N_alloc | apply Kd.N_drewN | apply Kd.N_drew)); exact Kd.N_mono HO_6.out (fun _ hk => ⟨hk.1.1.1, ⟨hk.1.1.2.1, ⟨hk.2, hk.1.1.2.2⟩⟩⟩)⟩, ⟨zPN HO218.out⟩, ⟨zR BK195.out⟩, ⟨zT HB.out GE195.out⟩⟩
     case round =>
      clear H'
      try clear c1
      try clear hx1
      try clear qi1
      try clear c2
      try clear hx2
      try clear c3
      try clear c4
      try clear c9
      try clear c10
      try clear c11
      try clear c12
      try clear c13
      try clear hx14
      try clear qi14
      try clear hf14
      try clear c15
      try clear c21
      try clear hx21
      try clear c22
      try clear c28
      try clear c29
      try clear hcz5_0
      try clear hcz5_1
      try clear hfz5_0
      try clear hfz5_1
      try clear hx14_0
      try clear hx212_0
      obtain ⟨x5_2, x6_2, x9_2, x10_2, rfl, HA, HK2, HO_5, HO_6, HO_9, BK195, HB⟩ := hrel
      cases gk with
      | zero => exact absurd HA.out (by simp [spec_l06First.l1])
      | succ k2 =>
       have H := HA.out
       clear HA
       simp only [spec_l06First.l1] at H
       by_cases c36 : x10_2 ≤ a1
       ·rw [if_pos c36] at H
        have c36b0 : decide (x10_2 ≤ a1) = true := decide_eq_true c36
        clear c36
        obtain ⟨y219, hy219⟩ : ∃ y_ : List (List Int), y_ = (([] : List (List Int))) := ⟨_, rfl⟩
        replace H : (spec_l06First.l2 k2 a1 x5_2 x6_2 x9_2 x10_2 y219 0 a0_0 l0_1) = some r := zy hy219 H
        have Ny219 := zA hy219
        clear hy219
        have H' := zA H
        clear H
        go_wp2_with (first | ((with_reducible refine kS (N := 48) rfl ?_); refine Kd.N_lit (Kd.slice 2 (Kd.int .i64)) _ 22 ?hg (N' := 48) ?hd (xs := ([] : List (List Int))) (inner := []) (ok := (fun k_ => (w.heap.size ≤ k_) ∧ some k_ ≠ (v197 : Value).ownBlock ∧ some k_ ≠ (u6 : Value).ownBlock ∧ some k_ ≠ (u9 : Value).ownBlock ∧ k_ ≠ gb195)) (okp := (fun k_ => (w.heap.size ≤ k_) ∧ some k_ ≠ (v197 : Value).ownBlock ∧ some k_ ≠ (u6 : Value).ownBlock ∧ some k_ ≠ (u9 : Value).ownBlock ∧ k_ ≠ gb195)) ?hr ?hp (fun _ hk => hk) ((show ∀ k_ : Nat, (_ : Nat) ≤ k_ → (fun k_ => (w.heap.size ≤ k_) ∧ some k_ ≠ (v197 : Value).ownBlock ∧ some k_ ≠ (u6 : Value).ownBlock ∧ some k_ ≠ (u9 : Value).ownBlock ∧ k_ ≠ gb195) k_ from fun k_ hk => ⟨(Nat.le_trans (kP (zT HB.out GE195.out)) hk), jF (kH (zP HO_5.out)) k_ hk, jF (jA (zPN HO_6.out)) k_ hk, jF (jA (zPN HO_9.out)) k_ hk, jE (g := gb195) (o := .cells #[.int .i64 a0_0, .slice A0_1 l0_1.length c0_1] 29 (0, 0)) (zR BK195.out) k_ hk⟩) _ (Nat.le_refl _)) (kW _ _) (Nat.le_refl _) (by simp) ?_; (case hd => rfl); (case hg => rfl); (case hr => first | (go_simp; done) | (go_simp; rfl)); (case hp => exact (Reps.none _ _)); intro v220 w37 ho38 hb hg_ hnew_; clear hg_ hnew_; (first | rw [← Ny219.out] at ho38 | (simp only [Int.reduceToNat] at ho38; rw [← Ny219.out] at ho38)); replace HO_5 := zA (kL (zP HO_5.out) hb); replace HO_6 := zA (Kd.N_elder' (zPN HO_6.out) (Kd.N_base ho38) hb); replace HO_9 := zA (Kd.N_elder' (zPN HO_9.out) (Kd.N_base ho38) hb); have HO221 := zA (jN ho38 (kP (zT HB.out GE195.out))); replace BK195 := zA (zB1 BK195.out hb); replace HB := zA (kQ (zT HB.out GE195.out) hb); clear hb ho38))
        go_loopg [11, 12] k2 (fun kq v11 v12 w' => ∃ (x5_3 : List Int) (x11_3 : List (List Int)) (x12_3 : Int), v12 = .int .i64 x12_3 ∧ Aside0 (spec_l06First.l2 kq a1 x5_3 x6_2 x9_2 x10_2 x11_3 x12_3 a0_0 l0_1 = some r) ∧ Aside0 (kq ≤ k2) ∧ Aside0 (Kd.R (Kd.int .i64) 2 w' w.heap.size (fun k_ => (w.heap.size ≤ k_)) v197 x5_3) ∧ Aside0 (Kd.N (Kd.slice 2 (Kd.int .i64)) 22 w' w.heap.size (fun k_ => (w.heap.size ≤ k_) ∧ some k_ ≠ (v197 : Value).ownBlock ∧ some k_ ≠ (u9 : Value).ownBlock ∧ some k_ ≠ (v11 : Value).ownBlock ∧ k_ ≠ gb195) u6 x6_2) ∧ Aside0 (Kd.N (Kd.slice 2 (Kd.int .i64)) 22 w' w.heap.size (fun k_ => (w.heap.size ≤ k_) ∧ some k_ ≠ (v197 : Value).ownBlock ∧ some k_ ≠ (u6 : Value).ownBlock ∧ some k_ ≠ (v11 : Value).ownBlock ∧ k_ ≠ gb195) u9 x9_2) ∧ Aside0 (Kd.N (Kd.slice 2 (Kd.int .i64)) 22 w' w.heap.size (fun k_ => (w.heap.size ≤ k_) ∧ some k_ ≠ (v197 : Value).ownBlock ∧ some k_ ≠ (u6 : Value).ownBlock ∧ some k_ ≠ (u9 : Value).ownBlock ∧ k_ ≠ gb195) v11 x11_3) ∧ Aside0 (w'.heap[gb195]? = some (.cells #[.int .i64 a0_0, (.slice A0_1 l0_1.length c0_1)] 29 (0, 0))) ∧ Aside0 (Below w.heap.size w w'))
        case atStart => exact ⟨(x5_2), (y219), (0), zs, H', ⟨Nat.le_refl _⟩, ⟨zP HO_5.out⟩, ⟨by (with_reducible repeat (first | apply Kd.N_alloc | apply Kd.N_drewN | apply Kd.N_drew)); exact Kd.N_mono HO_6.out (fun _ hk => ⟨hk.1.1, ⟨hk.1.2.1, ⟨hk.1.2.2.1, ⟨hk.2, hk.1.2.2.2⟩⟩⟩⟩)⟩, ⟨by (with_reducible repeat (first | apply Kd.N_alloc | apply Kd.N_drewN | apply Kd.N_drew)); exact Kd.N_mono HO_9.out (fun _ hk => ⟨hk.1.1, ⟨hk.1.2.1, ⟨hk.1.2.2.1, ⟨hk.2, hk.1.2.2.2⟩⟩⟩⟩)⟩, ⟨zPN HO221.out⟩, ⟨zR BK195.out⟩, ⟨zT HB.out GE195.out⟩⟩
        case round =>
         clear H'
         try clear c1
         try clear hx1
         try clear qi1
         try clear c2
         try clear hx2
         try clear c3
         try clear c4
         try clear c9
         try clear c10
         try clear c11
         try clear c12
         try clear c13
         try clear hx14
         try clear qi14
         try clear hf14
         try clear c15
         try clear c21
         try clear hx21
         try clear c22
         try clear c28
         try clear c29
         try clear c36
         try clear c37
         try clear hcz5_0
         try clear hcz5_1
         try clear hfz5_0
         try clear hfz5_1
         try clear hx14_0
         try clear hx212_0
         obtain ⟨x5_3, x11_3, x12_3, rfl, HA, HK3, HO_5, HO_6, HO_9, HO_11, BK195, HB⟩ := hrel
         cases gk with
         | zero => exact absurd HA.out (by simp [spec_l06First.l2])
         | succ k3 =>
          have H := HA.out
          clear HA
          simp only [spec_l06First.l2] at H
          by_cases c39 : x12_3 ≤ a1
          ·rw [if_pos c39] at H
           have c39b0 : decide (x12_3 ≤ a1) = true := decide_eq_true c39
           clear c39
           by_cases c40 : 0 ≤ (x5_3.length : Int)
           ·rw [if_pos c40] at H
            have c40b0 := eq_true c40
            have c40b1 : decide (0 ≤ (x5_3.length : Int)) = true := decide_eq_true c40
            clear c40
            by_cases c41 : ((x5_3.length : Int) : Int).toNat ≤ 35184372088832
            ·rw [if_pos c41] at H
             have c41b0 := eq_true c41
             have c41b1 : decide (((x5_3.length : Int) : Int).toNat ≤ 35184372088832) = true := decide_eq_true c41
             clear c41
             obtain ⟨y229, hy229⟩ : ∃ y_ : List Int, y_ = (List.replicate ((x5_3.length : Int) : Int).toNat 0) := ⟨_, rfl⟩
             replace H : (spec_l06First.l3 k3 a1 x5_3 x6_2 x9_2 x10_2 x11_3 x12_3 y229 1 a0_0 l0_1) = some r := zy hy229 H
             have Ny229 := zA hy229
             clear hy229
             have H' := zA H
             clear H
             obtain ⟨Ao42, co42, eo42⟩ := kM HO_5.out
             subst eo42
             go_wp2_with (first | ((with_reducible refine kS (N := 56) rfl ?_); refine Kd.R_make (Kd.int .i64) _ 2 rfl (N := 56) rfl 22 _ _ rfl (x5_3.length : Int) rfl rfl Tryd.underlying22 (.int .i64 0) 8 info2 rfl (by decide) (by omega) 0 (ok := fun _ => True) (okp := fun _ => True) rfl (fun _ hk => hk) trivial (zd) (Nat.le_trans (Nat.mul_le_mul_right _ (zd : (x5_3.length : Int).toNat ≤ 35184372088832)) (by omega)) (kW _ _) (Nat.le_refl _) ?_; intro v230 w43 ho44 hb hg_ hnew_; clear hg_ hnew_; (first | rw [← Ny229.out] at ho44 | (simp only [Int.reduceToNat] at ho44; rw [← Ny229.out] at ho44)); replace HO_6 := zA (Kd.N_elder' (zPN HO_6.out) (kC ho44) hb); replace HO_9 := zA (Kd.N_elder' (zPN HO_9.out) (kC ho44) hb); replace HO_11 := zA (Kd.N_elder' (zPN HO_11.out) (kC ho44) hb); have HO231 := zA (kI (kF (Kd.R_newM (M := fun k_ => (w.heap.size ≤ k_)) ho44 (kP (zT HB.out GE195.out)) (fun k_ h_ => h_)) (kH (zP HO_5.out))) (kP (zT HB.out GE195.out))); replace HO_5 := zA (kE (zP HO_5.out) (kC ho44) hb); replace BK195 := zA (zB1 BK195.out hb); replace HB := zA (kQ (zT HB.out GE195.out) hb); clear hb ho44))
             go_loopg [14] k3 (fun kq v14 w' => ∃ (x13_4 : List Int) (x14_4 : Int), v14 = .int .i64 x14_4 ∧ Aside0 (spec_l06First.l3 kq a1 x5_3 x6_2 x9_2 x10_2 x11_3 x12_3 x13_4 x14_4 a0_0 l0_1 = some r) ∧ Aside0 (kq ≤ k3) ∧ Aside0 (Kd.R (Kd.int .i64) 2 w' w.heap.size (fun k_ => (w.heap.size ≤ k_) ∧ some k_ ≠ (v230 : Value).ownBlock) (.slice Ao42 x5_3.length co42) x5_3) ∧ Aside0 (Kd.N (Kd.slice 2 (Kd.int .i64)) 22 w' w.heap.size (fun k_ => (w.heap.size ≤ k_) ∧ some k_ ≠ ((.slice Ao42 x5_3.length co42) : Value).ownBlock ∧ some k_ ≠ (u9 : Value).ownBlock ∧ some k_ ≠ (u11 : Value).ownBlock ∧ some k_ ≠ (v230 : Value).ownBlock ∧ k_ ≠ gb195) u6 x6_2) ∧ Aside0 (Kd.N (Kd.slice 2 (Kd.int .i64)) 22 w' w.heap.size (fun k_ => (w.heap.size ≤ k_) ∧ some k_ ≠ ((.slice Ao42 x5_3.length co42) : Value).ownBlock ∧ some k_ ≠ (u6 : Value).ownBlock ∧ some k_ ≠ (u11 : Value).ownBlock ∧ some k_ ≠ (v230 : Value).ownBlock ∧ k_ ≠ gb195) u9 x9_2) ∧ Aside0 (Kd.N (Kd.slice 2 (Kd.int .i64)) 22 w' w.heap.size (fun k_ => (w.heap.size ≤ k_) ∧ some k_ ≠ ((.slice Ao42 x5_3.length co42) : Value).ownBlock ∧ some k_ ≠ (u6 : Value).ownBlock ∧ some k_ ≠ (u9 : Value).ownBlock ∧ some k_ ≠ (v230 : Value).ownBlock ∧ k_ ≠ gb195) u11 x11_3) ∧ Aside0 (Kd.R (Kd.int .i64) 2 w' w.heap.size (fun k_ => (w.heap.size ≤ k_) ∧ some k_ ≠ ((.slice Ao42 x5_3.length co42) : Value).ownBlock) v230 x13_4) ∧ Aside0 (w'.heap[gb195]? = some (.cells #[.int .i64 a0_0, (.slice A0_1 l0_1.length c0_1)] 29 (0, 0))) ∧ Aside0 (Below w.heap.size w w'))
             case atStart => exact ⟨(y229), (1), zs, H', ⟨Nat.le_refl _⟩, ⟨zP HO_5.out⟩, ⟨by (with_reducible repeat (first | apply Kd.N_alloc | apply Kd.N_drewN | apply Kd.N_drew)); exact Kd.N_mono HO_6.out (fun _ hk => ⟨hk.1.1, ⟨hk.1.2.1, ⟨hk.1.2.2.1, ⟨hk.1.2.2.2.1, ⟨hk.2, hk.1.2.2.2.2⟩⟩⟩⟩⟩)⟩, ⟨by (with_reducible repeat (first | apply Kd.N_alloc | apply Kd.N_drewN | apply Kd.N_drew)); exact Kd.N_mono HO_9.out (fun _ hk => ⟨hk.1.1, ⟨hk.1.2.1, ⟨hk.1.2.2.1, ⟨hk.1.2.2.2.1, ⟨hk.2, hk.1.2.2.2.2⟩⟩⟩⟩⟩)⟩, ⟨by (with_reducible repeat (first | apply Kd.N_alloc | apply Kd.N_drewN | apply Kd.N_drew)); exact Kd.N_mono HO_11.out (fun _ hk => ⟨hk.1.1, ⟨hk.1.2.1, ⟨hk.1.2.2.1, ⟨hk.1.2.2.2.1, ⟨hk.2, hk.1.2.2.2.2⟩⟩⟩⟩⟩)⟩, ⟨zPM HO231.out (fun _ hk => ⟨hk.1.1, hk.2⟩)⟩, ⟨zR BK195.out⟩, ⟨zT HB.out GE195.out⟩⟩
             case round =>
              clear H'
              try clear c1
              try clear hx1
              try clear qi1
              try clear c2
              try clear hx2
              try clear c3
              try clear c4
              try clear c9
              try clear c10
              try clear c11
              try clear c12
              try clear c13
              try clear hx14
              try clear qi14
              try clear hf14
              try clear c15
              try clear c21
              try clear hx21
              try clear c22
              try clear c28
              try clear c29
              try clear c36
              try clear c37
              try clear c39
              try clear c40
              try clear c41
              try clear hcz5_0
              try clear hcz5_1
              try clear hfz5_0
              try clear hfz5_1
              try clear hx14_0
              try clear hx212_0
              obtain ⟨x13_4, x14_4, rfl, HA, HK4, HO_5, HO_6, HO_9, HO_11, HO_13, BK195, HB⟩ := hrel
              cases gk with
              | zero => exact absurd HA.out (by simp [spec_l06First.l3])
              | succ k4 =>
               have H := HA.out
               clear HA
               simp only [spec_l06First.l3] at H
               by_cases c45 : x14_4 < (x5_3.length : Int)
               ·rw [if_pos c45] at H
                have c45b0 : decide (x14_4 < (x5_3.length : Int)) = true := decide_eq_true c45
                clear c45
                by_cases c46 : 0 ≤ x14_4
                ·rw [if_pos c46] at H
                 have c46b0 : decide (0 ≤ x14_4) = true := decide_eq_true c46
                 clear c46
                 obtain ⟨t236, A47, H⟩ := zb H
                 try dsimp only at H
                 by_cases c48 : (wrap64 (x12_3 - t236)) < 0
                 ·rw [if_pos c48] at H
                  have c48b0 : decide ((wrap64 (x12_3 - t236)) < 0) = true := decide_eq_true c48
                  clear c48
                  have H' := zA H
                  clear H
                  have p235 : 0 ≤ (x14_4 : Int) := zd
                  have q235 : x14_4 < (x5_3.length : Int) := zd
                  obtain ⟨ad235, e235, hx235_0⟩ := Kd.at_int (kB HO_5.out).2.2 x14_4 p235 q235
                  cases e235
                  replace p235 := eq_true p235
                  replace q235 := eq_true q235
                  go_wp2_with (first | (refine zO (some 68) Tryd.func57 #[.int .i64 (rd x5_3 x14_4)] ?_; (with_reducible refine (spec_l01Bits.calls k4 (rd x5_3 x14_4) t236 _ A47.out).mono ?_); rintro e w' ⟨rfl, ⟨nd, rfl⟩⟩; refine ⟨_, rfl, ?_⟩))
                  go_roundg k4
                  case measure => have := HK1.out; have := HK2.out; have := HK3.out; have := HK4.out; omega
                  case rel => exact ⟨(x13_4), (wrap64 (x14_4 + 1)), zs, H', ⟨by have := HK1.out; have := HK2.out; have := HK3.out; have := HK4.out; omega⟩, ⟨zP HO_5.out⟩, ⟨zPN HO_6.out⟩, ⟨zPN HO_9.out⟩, ⟨zPN HO_11.out⟩, ⟨zP HO_13.out⟩, ⟨zR BK195.out⟩, ⟨zT HB.out GE195.out⟩⟩
                 rw [if_neg c48] at H
                 have c48b0 : decide ((wrap64 (x12_3 - t236)) < 0) = false := decide_eq_false c48
                 clear c48
                 obtain ⟨t238, A49, H⟩ := zb H
                 try dsimp only at H
                 have H' := zA H
                 clear H
                 have p235 : 0 ≤ (x14_4 : Int) := zd
                 have q235 : x14_4 < (x5_3.length : Int) := zd
                 obtain ⟨ad235, e235, hx235_0⟩ := Kd.at_int (kB HO_5.out).2.2 x14_4 p235 q235
                 cases e235
                 replace p235 := eq_true p235
                 replace q235 := eq_true q235
                 try go_wp2_with (first | (refine zO (some 68) Tryd.func57 #[.int .i64 (rd x5_3 x14_4)] ?_; (with_reducible refine (spec_l01Bits.calls k4 (rd x5_3 x14_4) t236 _ A47.out).mono ?_); rintro e w' ⟨rfl, ⟨nd, rfl⟩⟩; refine ⟨_, rfl, ?_⟩))
                 (try (rw [drewN_self wr]; generalize hq_ : World.drewN wr _ = wr; have n0_ : Aside0 (Kd.N (Kd.slice 2 (Kd.int .i64)) 22 wr w.heap.size (fun k_ => (w.heap.size ≤ k_) ∧ some k_ ≠ (v230 : Value).ownBlock ∧ some k_ ≠ (.slice (some ad235) x5_3.length co42 : Value).ownBlock ∧ some k_ ≠ (u6 : Value).ownBlock ∧ some k_ ≠ (u9 : Value).ownBlock ∧ k_ ≠ gb195) u11 x11_3) := ⟨by rw [← hq_]; exact (by (with_reducible repeat (first | apply Kd.N_alloc | apply Kd.N_drewN | apply Kd.N_drew)); exact Kd.N_mono HO_11.out (fun _ hk => ⟨hk.1, ⟨hk.2.2.2.2.1, ⟨hk.2.1, ⟨hk.2.2.1, ⟨hk.2.2.2.1, hk.2.2.2.2.2⟩⟩⟩⟩⟩))⟩; have n1_ : Aside0 (Kd.R (Kd.int .i64) 2 wr w.heap.size (fun k_ => (w.heap.size ≤ k_) ∧ some k_ ≠ (.slice (some ad235) x5_3.length co42 : Value).ownBlock) v230 x13_4) := ⟨by rw [← hq_]; exact (zP HO_13.out)⟩; have n2_ : Aside0 (Kd.R (Kd.int .i64) 2 wr w.heap.size (fun k_ => (w.heap.size ≤ k_) ∧ some k_ ≠ (v230 : Value).ownBlock) (.slice (some ad235) x5_3.length co42) x5_3) := ⟨by rw [← hq_]; exact (zP HO_5.out)⟩; have n3_ : Aside0 (Kd.N (Kd.slice 2 (Kd.int .i64)) 22 wr w.heap.size (fun k_ => (w.heap.size ≤ k_) ∧ some k_ ≠ (u11 : Value).ownBlock ∧ some k_ ≠ (v230 : Value).ownBlock ∧ some k_ ≠ (.slice (some ad235) x5_3.length co42 : Value).ownBlock ∧ some k_ ≠ (u9 : Value).ownBlock ∧ k_ ≠ gb195) u6 x6_2) := ⟨by rw [← hq_]; exact (by (with_reducible repeat (first | apply Kd.N_alloc | apply Kd.N_drewN | apply Kd.N_drew)); exact Kd.N_mono HO_6.out (fun _ hk => ⟨hk.1, ⟨hk.2.2.2.1, ⟨hk.2.2.2.2.1, ⟨hk.2.1, ⟨hk.2.2.1, hk.2.2.2.2.2⟩⟩⟩⟩⟩))⟩; have n4_ : Aside0 (Kd.N (Kd.slice 2 (Kd.int .i64)) 22 wr w.heap.size (fun k_ => (w.heap.size ≤ k_) ∧ some k_ ≠ (u11 : Value).ownBlock ∧ some k_ ≠ (v230 : Value).ownBlock ∧ some k_ ≠ (.slice (some ad235) x5_3.length co42 : Value).ownBlock ∧ some k_ ≠ (u6 : Value).ownBlock ∧ k_ ≠ gb195) u9 x9_2) := ⟨by rw [← hq_]; exact (by (with_reducible repeat (first | apply Kd.N_alloc | apply Kd.N_drewN | apply Kd.N_drew)); exact Kd.N_mono HO_9.out (fun _ hk => ⟨hk.1, ⟨hk.2.2.2.1, ⟨hk.2.2.2.2.1, ⟨hk.2.1, ⟨hk.2.2.1, hk.2.2.2.2.2⟩⟩⟩⟩⟩))⟩; have n5_ : Aside0 (wr.heap[gb195]? = some (.cells #[.int .i64 a0_0, .slice A0_1 l0_1.length c0_1] 29 (0, 0))) := ⟨by rw [← hq_]; exact (zR BK195.out)⟩; have n6_ : Aside0 (Below w.heap.size w wr) := ⟨by rw [← hq_]; exact (zT HB.out GE195.out)⟩; clear HO_11 HO_13 HO_5 HO_6 HO_9 BK195 HB hq_; have HO_11 := n0_; have HO_13 := n1_; have HO_5 := n2_; have HO_6 := n3_; have HO_9 := n4_; have BK195 := n5_; have HB := n6_; clear n0_ n1_ n2_ n3_ n4_ n5_ n6_))
                 replace HO_5 := zA (zH HO_5.out)
                 replace HO_6 := zA (Kd.N_drew HO_6.out)
                 replace HO_9 := zA (Kd.N_drew HO_9.out)
                 replace HO_11 := zA (Kd.N_drew HO_11.out)
                 replace HO_13 := zA (zH HO_13.out)
                 replace BK195 := zA (zK BK195.out)
                 replace HB := zA (zD HB.out)
                 have p237 : 0 ≤ (x14_4 : Int) := zd
                 have q237 : x14_4 < (x5_3.length : Int) := zd
                 obtain ⟨ad237, e237, hx237_0⟩ := Kd.at_int (kB HO_5.out).2.2 x14_4 p237 q237
                 obtain rfl : ad235 = ad237 := (by injection e237)
                 replace p237 := eq_true p237
                 replace q237 := eq_true q237
                 refine start_ (n := 7) (S := fun w' => w'.cell? ⟨gb195, 0, none⟩ = some (.int .i64 a0_0) ∧ w'.cell? ⟨gb195, 1, none⟩ = some (.slice A0_1 l0_1.length c0_1) ∧ w'.cell? (ad235.add (x14_4).toNat) = some (.int .i64 (rd x5_3 x14_4))) (ds := []) #[false, false, false, false, false, false, false] (by kernel_rfl) rfl rfl ⟨(kV BK195.out 0).trans rfl, (kV BK195.out 1).trans rfl, hx237_0⟩ (fun hHeld => ?_)
                 generalize wr.drew = w50 at HO_5 HO_6 HO_9 HO_11 HO_13 BK195 HB hx237_0 hHeld ⊢
                 refine pure_ (i := 1) (N := some 73) (v := ?_) (a' := ?_) #[false, true, false, false, false, false, false] rfl rfl (by kernel_rfl) (fun _ _ _ h => h) (Or.inl ⟨by rfl, ?_⟩) ?_ ?_
                 rotate_left
                 ·intro w'
                  go_simp
                  with_reducible rfl
                 rotate_left
                 ·simp only [Act.put, zL, zM, zN, i64_w, i32_w]
                  rfl
                 refine pure_ (i := 2) (N := some 74) (v := ?_) (a' := ?_) #[false, true, true, false, false, false, false] rfl rfl (by kernel_rfl) (fun _ _ _ h => h) (Or.inl ⟨by rfl, ?_⟩) ?_ ?_
                 rotate_left
                 ·intro w'
                  go_simp
                  with_reducible rfl
                 rotate_left
                 ·simp only [Act.put, zL, zM, zN, i64_w, i32_w]
                  rfl
                 refine pure_ (i := 3) (N := some 75) (v := ?_) (a' := ?_) #[false, true, true, true, false, false, false] rfl rfl (by kernel_rfl) (fun _ _ _ h => h) (Or.inl ⟨by rfl, ?_⟩) ?_ ?_
                 rotate_left
                 ·intro w'
                  go_simp
                  with_reducible rfl
                 rotate_left
                 ·simp only [Act.put, zL, zM, zN, i64_w, i32_w]
                  rfl
                 refine take_ (i := 0) (N := some 72) (v := ?_) (a' := ?_) #[true, true, true, true, false, false, false] rfl rfl (by kernel_rfl) (fun _ _ _ h => h) (Or.inl ⟨by rfl, ?_⟩) hHeld ?_ ?_
                 rotate_left
                 ·rintro w' ⟨s0, s1, s2⟩
                  go_simp
                  with_reducible rfl
                 rotate_left
                 ·simp only [Act.put, zL, zM, zN, i64_w, i32_w]
                  rfl
                 refine take_ (i := 4) (N := some 76) (v := ?_) (a' := ?_) #[true, true, true, true, true, false, false] rfl rfl (by kernel_rfl) (fun _ _ _ h => h) (Or.inl ⟨by rfl, ?_⟩) hHeld ?_ ?_
                 rotate_left
                 ·rintro w' ⟨s0, s1, s2⟩
                  go_simp
                  with_reducible rfl
                 rotate_left
                 ·simp only [Act.put, zL, zM, zN, i64_w, i32_w]
                  rfl
                 refine one_ (i := 5) (N := some 77) #[true, true, true, true, true, true, false] rfl rfl (by kernel_rfl) (by decide) (fun K hK => ?_)
                 refine goes_ Tryd.func58 (by kernel_rfl) rfl #[.agg #[.int .i64 a0_0, .slice A0_1 l0_1.length c0_1], .int .i64 (rd x5_3 x14_4)] (by rfl) rfl rfl zg ?_
                 with_reducible refine (spec_l06Reach.calls k4 a0_0 _ _ l0_1 (rd x5_3 x14_4) t238 _ ?side1 ?side2 A49.out).mono ?_
                 (case side1 => exact zS (kO HR0_1.out HB.out))
                 (case side2 => exact HC0_1.out)
                 rintro e w51 ⟨rfl, hb⟩
                 have HS2_ := (hb.cell (jG _ _ (hHeld.2.2))).trans (hHeld.2.2)
                 refine ⟨_, rfl, ?_⟩
                 replace HO_5 := zA (kL (zP HO_5.out) hb)
                 replace HO_6 := zA (kZ (zPN HO_6.out) hb)
                 replace HO_9 := zA (kZ (zPN HO_9.out) hb)
                 replace HO_11 := zA (kZ (zPN HO_11.out) hb)
                 replace HO_13 := zA (kL (zP HO_13.out) hb)
                 replace BK195 := zA (zB1 BK195.out hb)
                 replace HB := zA (kQ (zT HB.out GE195.out) hb)
                 (try clear hb)
                 (try clear hb2)
                 (try clear hk)
                 (try clear hi)
                 (try clear hgw)
                 refine hK.out _ _ ⟨(kV BK195.out 0).trans rfl, (kV BK195.out 1).trans rfl, HS2_⟩ (fun hHeld => ?_)
                 clear hK K
                 refine norm_ (a' := ?_) ?_ ?_
                 rotate_left
                 ·show Act.put _ (some 77) _ = _
                  simp only [Act.put, zL, zM, zN, i64_w, i32_w]
                  rfl
                 refine pure_ (i := 6) (N := some 16) (v := ?_) (a' := ?_) #[true, true, true, true, true, true, true] rfl rfl (by kernel_rfl) (fun _ _ _ h => h) (Or.inl ⟨by rfl, ?_⟩) ?_ ?_
                 rotate_left
                 ·intro w'
                  go_simp
                  with_reducible rfl
                 rotate_left
                 ·simp only [Act.put, zL, zM, zN, i64_w, i32_w]
                  rfl
                 refine done_ (by kernel_rfl) ?_
                 try go_wp2
                 go_loopg [17] k4 (fun kq v17 w' => ∃ (x13_5 : List Int) (x17_5 : Int), v17 = .int .i64 x17_5 ∧ Aside0 (spec_l06First.l4 kq a1 x5_3 x6_2 x9_2 x10_2 x11_3 x12_3 x13_5 x14_4 (wrap64 (x12_3 - t236)) t238 x17_5 a0_0 l0_1 = some r) ∧ Aside0 (kq ≤ k4) ∧ Aside0 (Kd.R (Kd.int .i64) 2 w' w.heap.size (fun k_ => (w.heap.size ≤ k_) ∧ some k_ ≠ (v230 : Value).ownBlock) (.slice (some ad235) x5_3.length co42) x5_3) ∧ Aside0 (Kd.N (Kd.slice 2 (Kd.int .i64)) 22 w' w.heap.size (fun k_ => (w.heap.size ≤ k_) ∧ some k_ ≠ ((.slice (some ad235) x5_3.length co42) : Value).ownBlock ∧ some k_ ≠ (u9 : Value).ownBlock ∧ some k_ ≠ (u11 : Value).ownBlock ∧ some k_ ≠ (v230 : Value).ownBlock ∧ k_ ≠ gb195) u6 x6_2) ∧ Aside0 (Kd.N (Kd.slice 2 (Kd.int .i64)) 22 w' w.heap.size (fun k_ => (w.heap.size ≤ k_) ∧ some k_ ≠ ((.slice (some ad235) x5_3.length co42) : Value).ownBlock ∧ some k_ ≠ (u6 : Value).ownBlock ∧ some k_ ≠ (u11 : Value).ownBlock ∧ some k_ ≠ (v230 : Value).ownBlock ∧ k_ ≠ gb195) u9 x9_2) ∧ Aside0 (Kd.N (Kd.slice 2 (Kd.int .i64)) 22 w' w.heap.size (fun k_ => (w.heap.size ≤ k_) ∧ some k_ ≠ ((.slice (some ad235) x5_3.length co42) : Value).ownBlock ∧ some k_ ≠ (u6 : Value).ownBlock ∧ some k_ ≠ (u9 : Value).ownBlock ∧ some k_ ≠ (v230 : Value).ownBlock ∧ k_ ≠ gb195) u11 x11_3) ∧ Aside0 (Kd.R (Kd.int .i64) 2 w' w.heap.size (fun k_ => (w.heap.size ≤ k_) ∧ some k_ ≠ ((.slice (some ad235) x5_3.length co42) : Value).ownBlock) v230 x13_5) ∧ Aside0 (w'.heap[gb195]? = some (.cells #[.int .i64 a0_0, (.slice A0_1 l0_1.length c0_1)] 29 (0, 0))) ∧ Aside0 (Below w.heap.size w w'))
                 case atStart => exact ⟨(x13_4), (0), zs, H', ⟨Nat.le_refl _⟩, ⟨zP HO_5.out⟩, ⟨Kd.N_mono (zPN HO_6.out) (fun _ hk => by simp only [ne_eq] at hk ⊢; obtain ⟨h1_, h2_, h3_, h4_, h5_, h6_⟩ := hk; exact ⟨h1_, by assumption, by assumption, by assumption, by assumption, by assumption⟩)⟩, ⟨Kd.N_mono (zPN HO_9.out) (fun _ hk => by simp only [ne_eq] at hk ⊢; obtain ⟨h1_, h2_, h3_, h4_, h5_, h6_⟩ := hk; exact ⟨h1_, by assumption, by assumption, by assumption, by assumption, by assumption⟩)⟩, ⟨Kd.N_mono (zPN HO_11.out) (fun _ hk => by simp only [ne_eq] at hk ⊢; obtain ⟨h1_, h2_, h3_, h4_, h5_, h6_⟩ := hk; exact ⟨h1_, by assumption, by assumption, by assumption, by assumption, by assumption⟩)⟩, ⟨zP HO_13.out⟩, ⟨zR BK195.out⟩, ⟨zT HB.out GE195.out⟩⟩
                 case round =>
                  clear H'
                  try clear c1
                  try clear hx1
                  try clear qi1
                  try clear c2
                  try clear hx2
                  try clear c3
                  try clear c4
                  try clear c5
                  try clear c9
                  try clear c10
                  try clear c11
                  try clear c12
                  try clear c13
                  try clear hx14
                  try clear qi14
                  try clear hf14
                  try clear c15
                  try clear c21
                  try clear hx21
                  try clear c22
                  try clear hx23
                  try clear c28
                  try clear c29
                  try clear c36
                  try clear c37
                  try clear c39
                  try clear c40
                  try clear c41
                  try clear c45
                  try clear c46
                  try clear c48
                  try clear hcz5_0
                  try clear hcz5_1
                  try clear hfz5_0
                  try clear hfz5_1
                  try clear hx14_0
                  try clear hx212_0
                  try clear hx235_0
                  try clear hx237_0
                  obtain ⟨x13_5, x17_5, rfl, HA, HK5, HO_5, HO_6, HO_9, HO_11, HO_13, BK195, HB⟩ := hrel
                  cases gk with
                  | zero => exact absurd HA.out (by simp [spec_l06First.l4])
                  | succ k5 =>
                   have H := HA.out
                   clear HA
                   simp only [spec_l06First.l4] at H
                   by_cases c52 : x17_5 < (x5_3.length : Int)
                   ·rw [if_pos c52] at H
                    have c52b0 : decide (x17_5 < (x5_3.length : Int)) = true := decide_eq_true c52
                    clear c52
                    by_cases c53 : 0 ≤ x17_5
                    ·rw [if_pos c53] at H
                     have c53b0 : decide (0 ≤ x17_5) = true := decide_eq_true c53
                     clear c53
                     by_cases c54 : (Go.bits .or .i64 (rd x5_3 x17_5) t238) = t238
                     ·rw [if_pos c54] at H
                      obtain ⟨c54b0, c54b1⟩ := zT1 c54
                      clear c54
                      by_cases c55 : x17_5 > 0
                      ·rw [if_pos c55] at H
                       have c55b0 : decide (0 < x17_5) = true := decide_eq_true c55
                       clear c55
                       by_cases c56 : 0 ≤ x14_4
                       ·rw [if_pos c56] at H
                        have c56b0 : decide (0 ≤ x14_4) = true := decide_eq_true c56
                        clear c56
                        by_cases c57 : x14_4 < (x13_5.length : Int)
                        ·rw [if_pos c57] at H
                         have c57b0 : decide (x14_4 < (x13_5.length : Int)) = true := decide_eq_true c57
                         clear c57
                         obtain ⟨ji58, hji58⟩ : ∃ j_ : Int, (wrap64 (x12_3 - t236)) = j_ := ⟨_, rfl⟩
                         replace H : (if 0 ≤ (ji58) then (if (ji58) < (x6_2.length : Int) then (if x17_5 < ((rd_L1 x6_2 (ji58)).length : Int) then (spec_l06First.l4 k5 a1 x5_3 x6_2 x9_2 x10_2 x11_3 x12_3 (x13_5.set (x14_4 : Int).toNat (wrap64 ((rd x13_5 x14_4) + (rd (rd_L1 x6_2 (ji58)) x17_5)))) x14_4 (ji58) t238 (wrap64 (x17_5 + 1)) a0_0 l0_1) else (none)) else (none)) else (none)) = some r := by first | (rw [hji58] at H; exact H) | (simp only [hji58] at H ⊢; exact H)
                         (try rw [hji58] at c48b0)
                         have hji58w : (IntKind.i64.wrap (x12_3 - t236)) = ji58 := (i64_w _).trans hji58
                         by_cases c59 : 0 ≤ (ji58)
                         ·rw [if_pos c59] at H
                          have c59b0 : decide (0 ≤ (ji58)) = true := decide_eq_true c59
                          clear c59
                          by_cases c60 : (ji58) < (x6_2.length : Int)
                          ·rw [if_pos c60] at H
                           have c60b0 : decide ((ji58) < (x6_2.length : Int)) = true := decide_eq_true c60
                           clear c60
                           by_cases c61 : x17_5 < ((rd_L1 x6_2 (ji58)).length : Int)
                           ·rw [if_pos c61] at H
                            have c61b0 : decide (x17_5 < ((rd_L1 x6_2 (ji58)).length : Int)) = true := decide_eq_true c61
                            clear c61
                            obtain ⟨y243, hy243⟩ : ∃ y_ : List Int, y_ = (x13_5.set (x14_4 : Int).toNat (wrap64 ((rd x13_5 x14_4) + (rd (rd_L1 x6_2 (ji58)) x17_5)))) := ⟨_, rfl⟩
                            replace H : (spec_l06First.l4 k5 a1 x5_3 x6_2 x9_2 x10_2 x11_3 x12_3 y243 x14_4 (ji58) t238 (wrap64 (x17_5 + 1)) a0_0 l0_1) = some r := zy hy243 H
                            have Ny243 := zA hy243
                            clear hy243
                            have H' := zA H
                            clear H
                            have p239 : 0 ≤ (x17_5 : Int) := zd
                            have q239 : x17_5 < (x5_3.length : Int) := zd
                            obtain ⟨ad239, e239, hx239_0⟩ := Kd.at_int (kB HO_5.out).2.2 x17_5 p239 q239
                            obtain rfl : ad235 = ad239 := (by injection e239)
                            replace p239 := eq_true p239
                            replace q239 := eq_true q239
                            try go_wp2
                            replace HO_5 := zA (zH HO_5.out)
                            replace HO_6 := zA (Kd.N_drew HO_6.out)
                            replace HO_9 := zA (Kd.N_drew HO_9.out)
                            replace HO_11 := zA (Kd.N_drew HO_11.out)
                            replace HO_13 := zA (zH HO_13.out)
                            replace BK195 := zA (zK BK195.out)
                            replace HB := zA (zD HB.out)
                            obtain ⟨Ao64, co64, eo64⟩ := kM HO_13.out
                            (first | subst eo64 | (injection eo64 with f1_ f2_ f3_; have f4_ := f1_.symm; have f5_ := f3_.symm; clear f1_ f2_ f3_; subst f4_; subst f5_))
                            have p240 : 0 ≤ (x14_4 : Int) := zd
                            have q240 : x14_4 < (x13_5.length : Int) := zd
                            obtain ⟨ad240, e240, hx240_0⟩ := Kd.at_int (kB HO_13.out).2.2 x14_4 p240 q240
                            cases e240
                            replace p240 := eq_true p240
                            replace q240 := eq_true q240
                            obtain ⟨Ao65, co65, eo65⟩ := Kd.N_slice HO_6.out
                            (first | subst eo65 | (injection eo65 with f1_ f2_ f3_; have f4_ := f1_.symm; have f5_ := f3_.symm; clear f1_ f2_ f3_; subst f4_; subst f5_))
                            have p241 : 0 ≤ ((ji58) : Int) := zd
                            have q241 : (ji58) < (x6_2.length : Int) := zd
                            obtain ⟨ad241, A241_0, c241_0, e241, hx241_0, hl241_0, hi241_0⟩ := at_L1 (Kd.N_reads' HO_6.out).2.2 (ji58) p241 q241
                            cases e241
                            obtain ⟨ce241, hce241, hMe241, hcc241⟩ := Kd.N_get HO_6.out [] (ji58) p241 (by first | exact q241 | exact zd | (have e_ := (Kd.N_reads' HO_6.out).1; omega))
                            obtain ⟨ua241_0, uc241_0, rfl, ul241_0, ge241_0⟩ := Kd.FK_slice_open hMe241
                            have hv241_0 := hcc241 0 _ rfl
                            rw [Nat.add_zero, show ((Kd.slice 2 (Kd.int .i64))).sz = 1 from rfl, Nat.mul_one] at hv241_0
                            replace hv241_0 := Option.some.inj (hv241_0.symm.trans hx241_0)
                            injection hv241_0 with hva_ hvn_ hvc_
                            rw [hva_] at ge241_0
                            rw [hvc_] at ul241_0
                            have HL241_0 := zA (show Kd.V (Kd.int .i64) 2 _ w.heap.size _ _ (rd_L1 x6_2 (ji58)) from Kd.V_mk ul241_0 ge241_0)
                            clear hva_ hvn_ hvc_ ge241_0 ul241_0 hcc241 hce241
                            have HR241_0 := zA hi241_0
                            have HC241_0 := zA hl241_0
                            clear hi241_0 hl241_0
                            replace p241 := eq_true p241
                            replace q241 := eq_true q241
                            have p242 : 0 ≤ (x17_5 : Int) := zd
                            have q242 : x17_5 < ((rd_L1 x6_2 (ji58)).length : Int) := zd
                            obtain ⟨ad242, e242, hx242_0⟩ := Kd.at_int (by repeat (first | (with_reducible exact HR241_0.out) | (with_reducible refine Kd.C_alloc ?_ _) | (with_reducible refine Kd.C_drewN ?_ _) | (with_reducible refine Kd.C_drew ?_) | exact HR241_0.out)) x17_5 p242 q242
                            cases e242
                            replace p242 := eq_true p242
                            replace q242 := eq_true q242
                            have p62 : 0 ≤ (x14_4 : Int) := zd
                            have q62 : (x14_4 : Int) < ((x13_5.length : Int) : Int) := zd
                            obtain ⟨go62, co62, eo62, gb62, gl62, cl62, HG62⟩ := Kd.R_form HO_13.out (by omega)
                            (first | cases eo62 | (injection eo62 with ea_ en_ ec_; (first | subst ea_ | (injection ea_ with ea_; subst ea_)); subst ec_; clear en_))
                            have GB62 := zA gb62
                            have GG62 := zA HG62
                            clear gb62 gl62 HG62
                            (first | simp only [add_plain] at hx240_0 | skip)
                            obtain ⟨hx62_0, hf62_0⟩ := Kd.R_celln 0 HO_13.out (x14_4 : Int) p62 q62
                            replace p62 := eq_true p62
                            replace q62 := eq_true q62
                            have HP66 := Kd.R_putn HO_13.out (x14_4 : Int) (wrap64 ((rd x13_5 x14_4) + (rd (rd_L1 x6_2 (ji58)) x17_5)))
                            rw [← Ny243.out] at HP66
                            have HQ66 := zA HP66
                            clear HP66
                            refine start_ (n := 16) (S := fun w' => w'.cell? ⟨go62, (x14_4).toNat, none⟩ = some (.int .i64 (rd x13_5 x14_4)) ∧ w'.cell? (ad241.add ((ji58)).toNat) = some (.slice (some ad242) (rd_L1 x6_2 (ji58)).length c241_0) ∧ w'.cell? (ad242.add (x17_5).toNat) = some (.int .i64 (rd (rd_L1 x6_2 (ji58)) x17_5))) (ds := [15]) #[false, false, false, false, false, false, false, false, false, false, false, false, false, false, false, false] (by kernel_rfl) rfl rfl ⟨hx240_0, hx241_0, hx242_0⟩ (fun hHeld => ?_); refine with_tabW spec_l06First.tab29 spec_l06First.bits29 (fun HT_ HW_ => ?_)
                            generalize wr.drew = w63 at HO_5 HO_6 HO_9 HO_11 HO_13 BK195 HB GG62 HL241_0 HQ66 HR241_0 hf62_0 hx240_0 hx241_0 hx242_0 hx62_0 hHeld ⊢
                            refine zp 0 (some 100) #[true, false, false, false, false, false, false, false, false, false, false, false, false, false, false, false] HT_.out ?_
                            refine zp 1 (some 101) #[true, true, false, false, false, false, false, false, false, false, false, false, false, false, false, false] HT_.out ?_
                            refine zp 2 (some 102) #[true, true, true, false, false, false, false, false, false, false, false, false, false, false, false, false] HT_.out ?_
                            refine zp 3 (some 103) #[true, true, true, true, false, false, false, false, false, false, false, false, false, false, false, false] HT_.out ?_
                            refine zp 4 (some 104) #[true, true, true, true, true, false, false, false, false, false, false, false, false, false, false, false] HT_.out ?_
                            refine zp 6 (some 106) #[true, true, true, true, true, false, true, false, false, false, false, false, false, false, false, false] HT_.out ?_
                            refine zp 7 (some 107) #[true, true, true, true, true, false, true, true, false, false, false, false, false, false, false, false] HT_.out ?_
                            refine zp 8 (some 108) #[true, true, true, true, true, false, true, true, true, false, false, false, false, false, false, false] HT_.out ?_
                            refine zp 10 (some 110) #[true, true, true, true, true, false, true, true, true, false, true, false, false, false, false, false] HT_.out ?_
                            refine ze 5 (some 105) #[true, true, true, true, true, true, true, true, true, false, true, false, false, false, false, false] HT_.out HW_.out hHeld ?_
                            refine ze 9 (some 109) #[true, true, true, true, true, true, true, true, true, true, true, false, false, false, false, false] HT_.out HW_.out hHeld ?_
                            refine zp 11 (some 111) #[true, true, true, true, true, true, true, true, true, true, true, true, false, false, false, false] HT_.out ?_
                            refine ze 12 (some 112) #[true, true, true, true, true, true, true, true, true, true, true, true, true, false, false, false] HT_.out HW_.out hHeld ?_
                            refine zp 13 (some 113) #[true, true, true, true, true, true, true, true, true, true, true, true, true, true, false, false] HT_.out ?_
                            refine zp 14 (some 114) #[true, true, true, true, true, true, true, true, true, true, true, true, true, true, true, false] HT_.out ?_
                            refine last_ (i := 15) (N := none) #[true, true, true, true, true, true, true, true, true, true, true, true, true, true, true, true] rfl rfl (one_of HT_.out (by kernel_rfl)) (by decide) (fun K hK => ?_)
                            refine skip_ (w1 := ?_) (by rfl) rfl ?_ ?_
                            rotate_left
                            ·go_simp
                             rfl
                            refine hK.out _ _ ?_
                            clear hK K
                            refine done_ (done_of HT_.out (by kernel_rfl)) ?_
                            try go_wp2
                            subst hji58
                            go_roundg k5
                            case measure => have := HK1.out; have := HK2.out; have := HK3.out; have := HK4.out; have := HK5.out; omega
                            case rel => exact ⟨(y243), (wrap64 (x17_5 + 1)), zs, H', ⟨by have := HK1.out; have := HK2.out; have := HK3.out; have := HK4.out; have := HK5.out; omega⟩, ⟨by (with_reducible repeat (first | apply zF | apply zG | apply zH)); exact kA (kY (p := ⟨go62, (x14_4 : Int).toNat, none⟩) (kA HO_5.out (fun k_ hk => (⟨hk, fun e_ => hk.2 (by rw [e_]; rfl)⟩ : _ ∧ k_ ≠ go62))) (fun _ hk => hk.2) (.int .i64 (wrap64 ((rd x13_5 x14_4) + (rd (rd_L1 x6_2 (wrap64 (x12_3 - t236))) x17_5))))) (fun _ hk => ⟨hk.1.1, hk.1.2⟩)⟩, ⟨by (with_reducible repeat (first | apply Kd.N_alloc | apply Kd.N_drewN | apply Kd.N_drew)); exact Kd.N_mono (Kd.N_far (p := ⟨go62, (x14_4 : Int).toNat, none⟩) (Kd.N_mono HO_6.out (fun k_ hk => (⟨hk, fun e_ => hk.2.2.2.2.1 (by rw [e_]; rfl)⟩ : _ ∧ k_ ≠ go62))) (fun _ hk => hk.2) (.int .i64 (wrap64 ((rd x13_5 x14_4) + (rd (rd_L1 x6_2 (wrap64 (x12_3 - t236))) x17_5))))) (fun _ hk => ⟨hk.1.1, ⟨hk.1.2.1, ⟨hk.1.2.2.1, ⟨hk.1.2.2.2.1, ⟨hk.1.2.2.2.2.1, hk.1.2.2.2.2.2⟩⟩⟩⟩⟩)⟩, ⟨by (with_reducible repeat (first | apply Kd.N_alloc | apply Kd.N_drewN | apply Kd.N_drew)); exact Kd.N_mono (Kd.N_far (p := ⟨go62, (x14_4 : Int).toNat, none⟩) (Kd.N_mono HO_9.out (fun k_ hk => (⟨hk, fun e_ => hk.2.2.2.2.1 (by rw [e_]; rfl)⟩ : _ ∧ k_ ≠ go62))) (fun _ hk => hk.2) (.int .i64 (wrap64 ((rd x13_5 x14_4) + (rd (rd_L1 x6_2 (wrap64 (x12_3 - t236))) x17_5))))) (fun _ hk => ⟨hk.1.1, ⟨hk.1.2.1, ⟨hk.1.2.2.1, ⟨hk.1.2.2.2.1, ⟨hk.1.2.2.2.2.1, hk.1.2.2.2.2.2⟩⟩⟩⟩⟩)⟩, ⟨by (with_reducible repeat (first | apply Kd.N_alloc | apply Kd.N_drewN | apply Kd.N_drew)); exact Kd.N_mono (Kd.N_far (p := ⟨go62, (x14_4 : Int).toNat, none⟩) (Kd.N_mono HO_11.out (fun k_ hk => (⟨hk, fun e_ => hk.2.2.2.2.1 (by rw [e_]; rfl)⟩ : _ ∧ k_ ≠ go62))) (fun _ hk => hk.2) (.int .i64 (wrap64 ((rd x13_5 x14_4) + (rd (rd_L1 x6_2 (wrap64 (x12_3 - t236))) x17_5))))) (fun _ hk => ⟨hk.1.1, ⟨hk.1.2.1, ⟨hk.1.2.2.1, ⟨hk.1.2.2.2.1, ⟨hk.1.2.2.2.2.1, hk.1.2.2.2.2.2⟩⟩⟩⟩⟩)⟩, ⟨zP HQ66.out⟩, ⟨by (with_reducible repeat (first | refine zJ ?_ _ | refine zK ?_ | refine zI ?_ _)); refine blk_far ?_ (by have h_ := Kd.R_ne HO_13.out BK195.out (by decide); intro e_; exact h_ (by rw [e_]; rfl)) _; (with_reducible repeat (first | refine zJ ?_ _ | refine zK ?_ | refine zI ?_ _)); exact BK195.out⟩, ⟨zV HB.out GB62.out GE195.out⟩⟩
                           rw [if_neg c61] at H
                           exact absurd H (by simp)
                          rw [if_neg c60] at H
                          exact absurd H (by simp)
                         rw [if_neg c59] at H
                         exact absurd H (by simp)
                        rw [if_neg c57] at H
                        exact absurd H (by simp)
                       rw [if_neg c56] at H
                       exact absurd H (by simp)
                      rw [if_neg c55] at H
                      have c55b0 : decide (0 < x17_5) = false := decide_eq_false c55
                      clear c55
                      by_cases c67 : x10_2 = 1
                      ·rw [if_pos c67] at H
                       obtain ⟨c67b0, c67b1⟩ := zT1 c67
                       clear c67
                       by_cases c68 : 0 ≤ x14_4
                       ·rw [if_pos c68] at H
                        have c68b0 : decide (0 ≤ x14_4) = true := decide_eq_true c68
                        clear c68
                        by_cases c69 : x14_4 < (x13_5.length : Int)
                        ·rw [if_pos c69] at H
                         have c69b0 : decide (x14_4 < (x13_5.length : Int)) = true := decide_eq_true c69
                         clear c69
                         obtain ⟨ji70, hji70⟩ : ∃ j_ : Int, (wrap64 (x12_3 - t236)) = j_ := ⟨_, rfl⟩
                         replace H : (if 0 ≤ (ji70) then (if (ji70) < (x6_2.length : Int) then (if x17_5 < ((rd_L1 x6_2 (ji70)).length : Int) then (spec_l06First.l4 k5 a1 x5_3 x6_2 x9_2 x10_2 x11_3 x12_3 (x13_5.set (x14_4 : Int).toNat (wrap64 ((rd x13_5 x14_4) + (rd (rd_L1 x6_2 (ji70)) x17_5)))) x14_4 (ji70) t238 (wrap64 (x17_5 + 1)) a0_0 l0_1) else (none)) else (none)) else (none)) = some r := by first | (rw [hji70] at H; exact H) | (simp only [hji70] at H ⊢; exact H)
                         (try rw [hji70] at c48b0)
                         have hji70w : (IntKind.i64.wrap (x12_3 - t236)) = ji70 := (i64_w _).trans hji70
                         by_cases c71 : 0 ≤ (ji70)
                         ·rw [if_pos c71] at H
                          have c71b0 : decide (0 ≤ (ji70)) = true := decide_eq_true c71
                          clear c71
                          by_cases c72 : (ji70) < (x6_2.length : Int)
                          ·rw [if_pos c72] at H
                           have c72b0 : decide ((ji70) < (x6_2.length : Int)) = true := decide_eq_true c72
                           clear c72
                           by_cases c73 : x17_5 < ((rd_L1 x6_2 (ji70)).length : Int)
                           ·rw [if_pos c73] at H
                            have c73b0 : decide (x17_5 < ((rd_L1 x6_2 (ji70)).length : Int)) = true := decide_eq_true c73
                            clear c73
                            obtain ⟨y247, hy247⟩ : ∃ y_ : List Int, y_ = (x13_5.set (x14_4 : Int).toNat (wrap64 ((rd x13_5 x14_4) + (rd (rd_L1 x6_2 (ji70)) x17_5)))) := ⟨_, rfl⟩
                            replace H : (spec_l06First.l4 k5 a1 x5_3 x6_2 x9_2 x10_2 x11_3 x12_3 y247 x14_4 (ji70) t238 (wrap64 (x17_5 + 1)) a0_0 l0_1) = some r := zy hy247 H
                            have Ny247 := zA hy247
                            clear hy247
                            have H' := zA H
                            clear H
                            have p239 : 0 ≤ (x17_5 : Int) := zd
                            have q239 : x17_5 < (x5_3.length : Int) := zd
                            obtain ⟨ad239, e239, hx239_0⟩ := Kd.at_int (kB HO_5.out).2.2 x17_5 p239 q239
                            obtain rfl : ad235 = ad239 := (by injection e239)
                            replace p239 := eq_true p239
                            replace q239 := eq_true q239
                            try go_wp2
                            replace HO_5 := zA (zH HO_5.out)
                            replace HO_6 := zA (Kd.N_drew HO_6.out)
                            replace HO_9 := zA (Kd.N_drew HO_9.out)
                            replace HO_11 := zA (Kd.N_drew HO_11.out)
                            replace HO_13 := zA (zH HO_13.out)
                            replace BK195 := zA (zK BK195.out)
                            replace HB := zA (zD HB.out)
                            obtain ⟨Ao76, co76, eo76⟩ := kM HO_13.out
                            (first | subst eo76 | (injection eo76 with f1_ f2_ f3_; have f4_ := f1_.symm; have f5_ := f3_.symm; clear f1_ f2_ f3_; subst f4_; subst f5_))
                            have p244 : 0 ≤ (x14_4 : Int) := zd
                            have q244 : x14_4 < (x13_5.length : Int) := zd
                            obtain ⟨ad244, e244, hx244_0⟩ := Kd.at_int (kB HO_13.out).2.2 x14_4 p244 q244
                            cases e244
                            replace p244 := eq_true p244
                            replace q244 := eq_true q244
                            obtain ⟨Ao77, co77, eo77⟩ := Kd.N_slice HO_6.out
                            (first | subst eo77 | (injection eo77 with f1_ f2_ f3_; have f4_ := f1_.symm; have f5_ := f3_.symm; clear f1_ f2_ f3_; subst f4_; subst f5_))
                            have p245 : 0 ≤ ((ji70) : Int) := zd
                            have q245 : (ji70) < (x6_2.length : Int) := zd
                            obtain ⟨ad245, A245_0, c245_0, e245, hx245_0, hl245_0, hi245_0⟩ := at_L1 (Kd.N_reads' HO_6.out).2.2 (ji70) p245 q245
                            cases e245
                            obtain ⟨ce245, hce245, hMe245, hcc245⟩ := Kd.N_get HO_6.out [] (ji70) p245 (by first | exact q245 | exact zd | (have e_ := (Kd.N_reads' HO_6.out).1; omega))
                            obtain ⟨ua245_0, uc245_0, rfl, ul245_0, ge245_0⟩ := Kd.FK_slice_open hMe245
                            have hv245_0 := hcc245 0 _ rfl
                            rw [Nat.add_zero, show ((Kd.slice 2 (Kd.int .i64))).sz = 1 from rfl, Nat.mul_one] at hv245_0
                            replace hv245_0 := Option.some.inj (hv245_0.symm.trans hx245_0)
                            injection hv245_0 with hva_ hvn_ hvc_
                            rw [hva_] at ge245_0
                            rw [hvc_] at ul245_0
                            have HL245_0 := zA (show Kd.V (Kd.int .i64) 2 _ w.heap.size _ _ (rd_L1 x6_2 (ji70)) from Kd.V_mk ul245_0 ge245_0)
                            clear hva_ hvn_ hvc_ ge245_0 ul245_0 hcc245 hce245
                            have HR245_0 := zA hi245_0
                            have HC245_0 := zA hl245_0
                            clear hi245_0 hl245_0
                            replace p245 := eq_true p245
                            replace q245 := eq_true q245
                            have p246 : 0 ≤ (x17_5 : Int) := zd
                            have q246 : x17_5 < ((rd_L1 x6_2 (ji70)).length : Int) := zd
                            obtain ⟨ad246, e246, hx246_0⟩ := Kd.at_int (by repeat (first | (with_reducible exact HR245_0.out) | (with_reducible refine Kd.C_alloc ?_ _) | (with_reducible refine Kd.C_drewN ?_ _) | (with_reducible refine Kd.C_drew ?_) | exact HR245_0.out)) x17_5 p246 q246
                            cases e246
                            replace p246 := eq_true p246
                            replace q246 := eq_true q246
                            have p74 : 0 ≤ (x14_4 : Int) := zd
                            have q74 : (x14_4 : Int) < ((x13_5.length : Int) : Int) := zd
                            obtain ⟨go74, co74, eo74, gb74, gl74, cl74, HG74⟩ := Kd.R_form HO_13.out (by omega)
                            (first | cases eo74 | (injection eo74 with ea_ en_ ec_; (first | subst ea_ | (injection ea_ with ea_; subst ea_)); subst ec_; clear en_))
                            have GB74 := zA gb74
                            have GG74 := zA HG74
                            clear gb74 gl74 HG74
                            (first | simp only [add_plain] at hx244_0 | skip)
                            obtain ⟨hx74_0, hf74_0⟩ := Kd.R_celln 0 HO_13.out (x14_4 : Int) p74 q74
                            replace p74 := eq_true p74
                            replace q74 := eq_true q74
                            have HP78 := Kd.R_putn HO_13.out (x14_4 : Int) (wrap64 ((rd x13_5 x14_4) + (rd (rd_L1 x6_2 (ji70)) x17_5)))
                            rw [← Ny247.out] at HP78
                            have HQ78 := zA HP78
                            clear HP78
                            refine start_ (n := 16) (S := fun w' => w'.cell? ⟨go74, (x14_4).toNat, none⟩ = some (.int .i64 (rd x13_5 x14_4)) ∧ w'.cell? (ad245.add ((ji70)).toNat) = some (.slice (some ad246) (rd_L1 x6_2 (ji70)).length c245_0) ∧ w'.cell? (ad246.add (x17_5).toNat) = some (.int .i64 (rd (rd_L1 x6_2 (ji70)) x17_5))) (ds := [15]) #[false, false, false, false, false, false, false, false, false, false, false, false, false, false, false, false] (by kernel_rfl) rfl rfl ⟨hx244_0, hx245_0, hx246_0⟩ (fun hHeld => ?_); refine with_tabW spec_l06First.tab29 spec_l06First.bits29 (fun HT_ HW_ => ?_)
                            generalize wr.drew = w75 at HO_5 HO_6 HO_9 HO_11 HO_13 BK195 HB GG74 HL245_0 HQ78 HR245_0 hf74_0 hx244_0 hx245_0 hx246_0 hx74_0 hHeld ⊢
                            refine zp 0 (some 100) #[true, false, false, false, false, false, false, false, false, false, false, false, false, false, false, false] HT_.out ?_
                            refine zp 1 (some 101) #[true, true, false, false, false, false, false, false, false, false, false, false, false, false, false, false] HT_.out ?_
                            refine zp 2 (some 102) #[true, true, true, false, false, false, false, false, false, false, false, false, false, false, false, false] HT_.out ?_
                            refine zp 3 (some 103) #[true, true, true, true, false, false, false, false, false, false, false, false, false, false, false, false] HT_.out ?_
                            refine zp 4 (some 104) #[true, true, true, true, true, false, false, false, false, false, false, false, false, false, false, false] HT_.out ?_
                            refine zp 6 (some 106) #[true, true, true, true, true, false, true, false, false, false, false, false, false, false, false, false] HT_.out ?_
                            refine zp 7 (some 107) #[true, true, true, true, true, false, true, true, false, false, false, false, false, false, false, false] HT_.out ?_
                            refine zp 8 (some 108) #[true, true, true, true, true, false, true, true, true, false, false, false, false, false, false, false] HT_.out ?_
                            refine zp 10 (some 110) #[true, true, true, true, true, false, true, true, true, false, true, false, false, false, false, false] HT_.out ?_
                            refine ze 5 (some 105) #[true, true, true, true, true, true, true, true, true, false, true, false, false, false, false, false] HT_.out HW_.out hHeld ?_
                            refine ze 9 (some 109) #[true, true, true, true, true, true, true, true, true, true, true, false, false, false, false, false] HT_.out HW_.out hHeld ?_
                            refine zp 11 (some 111) #[true, true, true, true, true, true, true, true, true, true, true, true, false, false, false, false] HT_.out ?_
                            refine ze 12 (some 112) #[true, true, true, true, true, true, true, true, true, true, true, true, true, false, false, false] HT_.out HW_.out hHeld ?_
                            refine zp 13 (some 113) #[true, true, true, true, true, true, true, true, true, true, true, true, true, true, false, false] HT_.out ?_
                            refine zp 14 (some 114) #[true, true, true, true, true, true, true, true, true, true, true, true, true, true, true, false] HT_.out ?_
                            refine last_ (i := 15) (N := none) #[true, true, true, true, true, true, true, true, true, true, true, true, true, true, true, true] rfl rfl (one_of HT_.out (by kernel_rfl)) (by decide) (fun K hK => ?_)
                            refine skip_ (w1 := ?_) (by rfl) rfl ?_ ?_
                            rotate_left
                            ·go_simp
                             rfl
                            refine hK.out _ _ ?_
                            clear hK K
                            refine done_ (done_of HT_.out (by kernel_rfl)) ?_
                            try go_wp2
                            subst hji70
                            go_roundg k5
                            case measure => have := HK1.out; have := HK2.out; have := HK3.out; have := HK4.out; have := HK5.out; omega
                            case rel => exact ⟨(y247), (wrap64 (x17_5 + 1)), zs, H', ⟨by have := HK1.out; have := HK2.out; have := HK3.out; have := HK4.out; have := HK5.out; omega⟩, ⟨by (with_reducible repeat (first | apply zF | apply zG | apply zH)); exact kA (kY (p := ⟨go74, (x14_4 : Int).toNat, none⟩) (kA HO_5.out (fun k_ hk => (⟨hk, fun e_ => hk.2 (by rw [e_]; rfl)⟩ : _ ∧ k_ ≠ go74))) (fun _ hk => hk.2) (.int .i64 (wrap64 ((rd x13_5 x14_4) + (rd (rd_L1 x6_2 (wrap64 (x12_3 - t236))) x17_5))))) (fun _ hk => ⟨hk.1.1, hk.1.2⟩)⟩, ⟨by (with_reducible repeat (first | apply Kd.N_alloc | apply Kd.N_drewN | apply Kd.N_drew)); exact Kd.N_mono (Kd.N_far (p := ⟨go74, (x14_4 : Int).toNat, none⟩) (Kd.N_mono HO_6.out (fun k_ hk => (⟨hk, fun e_ => hk.2.2.2.2.1 (by rw [e_]; rfl)⟩ : _ ∧ k_ ≠ go74))) (fun _ hk => hk.2) (.int .i64 (wrap64 ((rd x13_5 x14_4) + (rd (rd_L1 x6_2 (wrap64 (x12_3 - t236))) x17_5))))) (fun _ hk => ⟨hk.1.1, ⟨hk.1.2.1, ⟨hk.1.2.2.1, ⟨hk.1.2.2.2.1, ⟨hk.1.2.2.2.2.1, hk.1.2.2.2.2.2⟩⟩⟩⟩⟩)⟩, ⟨by (with_reducible repeat (first | apply Kd.N_alloc | apply Kd.N_drewN | apply Kd.N_drew)); exact Kd.N_mono (Kd.N_far (p := ⟨go74, (x14_4 : Int).toNat, none⟩) (Kd.N_mono HO_9.out (fun k_ hk => (⟨hk, fun e_ => hk.2.2.2.2.1 (by rw [e_]; rfl)⟩ : _ ∧ k_ ≠ go74))) (fun _ hk => hk.2) (.int .i64 (wrap64 ((rd x13_5 x14_4) + (rd (rd_L1 x6_2 (wrap64 (x12_3 - t236))) x17_5))))) (fun _ hk => ⟨hk.1.1, ⟨hk.1.2.1, ⟨hk.1.2.2.1, ⟨hk.1.2.2.2.1, ⟨hk.1.2.2.2.2.1, hk.1.2.2.2.2.2⟩⟩⟩⟩⟩)⟩, ⟨by (with_reducible repeat (first | apply Kd.N_alloc | apply Kd.N_drewN | apply Kd.N_drew)); exact Kd.N_mono (Kd.N_far (p := ⟨go74, (x14_4 : Int).toNat, none⟩) (Kd.N_mono HO_11.out (fun k_ hk => (⟨hk, fun e_ => hk.2.2.2.2.1 (by rw [e_]; rfl)⟩ : _ ∧ k_ ≠ go74))) (fun _ hk => hk.2) (.int .i64 (wrap64 ((rd x13_5 x14_4) + (rd (rd_L1 x6_2 (wrap64 (x12_3 - t236))) x17_5))))) (fun _ hk => ⟨hk.1.1, ⟨hk.1.2.1, ⟨hk.1.2.2.1, ⟨hk.1.2.2.2.1, ⟨hk.1.2.2.2.2.1, hk.1.2.2.2.2.2⟩⟩⟩⟩⟩)⟩, ⟨zP HQ78.out⟩, ⟨by (with_reducible repeat (first | refine zJ ?_ _ | refine zK ?_ | refine zI ?_ _)); refine blk_far ?_ (by have h_ := Kd.R_ne HO_13.out BK195.out (by decide); intro e_; exact h_ (by rw [e_]; rfl)) _; (with_reducible repeat (first | refine zJ ?_ _ | refine zK ?_ | refine zI ?_ _)); exact BK195.out⟩, ⟨zV HB.out GB74.out GE195.out⟩⟩
                           rw [if_neg c73] at H
                           exact absurd H (by simp)
                          rw [if_neg c72] at H
                          exact absurd H (by simp)
                         rw [if_neg c71] at H
                         exact absurd H (by simp)
                        rw [if_neg c69] at H
                        exact absurd H (by simp)
                       rw [if_neg c68] at H
                       exact absurd H (by simp)
                      rw [if_neg c67] at H
                      obtain ⟨c67b0, c67b1⟩ := zT2 c67
                      have H' := zA H
                      clear H
                      have p239 : 0 ≤ (x17_5 : Int) := zd
                      have q239 : x17_5 < (x5_3.length : Int) := zd
                      obtain ⟨ad239, e239, hx239_0⟩ := Kd.at_int (kB HO_5.out).2.2 x17_5 p239 q239
                      obtain rfl : ad235 = ad239 := (by injection e239)
                      replace p239 := eq_true p239
                      replace q239 := eq_true q239
                      go_wp2
                      go_roundg k5
                      case measure => have := HK1.out; have := HK2.out; have := HK3.out; have := HK4.out; have := HK5.out; omega
                      case rel => exact ⟨(x13_5), (wrap64 (x17_5 + 1)), zs, H', ⟨by have := HK1.out; have := HK2.out; have := HK3.out; have := HK4.out; have := HK5.out; omega⟩, ⟨zP HO_5.out⟩, ⟨zPN HO_6.out⟩, ⟨zPN HO_9.out⟩, ⟨zPN HO_11.out⟩, ⟨zP HO_13.out⟩, ⟨zR BK195.out⟩, ⟨zT HB.out GE195.out⟩⟩
                     rw [if_neg c54] at H
                     obtain ⟨c54b0, c54b1⟩ := zT2 c54
                     have H' := zA H
                     clear H
                     have p239 : 0 ≤ (x17_5 : Int) := zd
                     have q239 : x17_5 < (x5_3.length : Int) := zd
                     obtain ⟨ad239, e239, hx239_0⟩ := Kd.at_int (kB HO_5.out).2.2 x17_5 p239 q239
                     obtain rfl : ad235 = ad239 := (by injection e239)
                     replace p239 := eq_true p239
                     replace q239 := eq_true q239
                     go_wp2
                     go_roundg k5
                     case measure => have := HK1.out; have := HK2.out; have := HK3.out; have := HK4.out; have := HK5.out; omega
                     case rel => exact ⟨(x13_5), (wrap64 (x17_5 + 1)), zs, H', ⟨by have := HK1.out; have := HK2.out; have := HK3.out; have := HK4.out; have := HK5.out; omega⟩, ⟨zP HO_5.out⟩, ⟨zPN HO_6.out⟩, ⟨zPN HO_9.out⟩, ⟨zPN HO_11.out⟩, ⟨zP HO_13.out⟩, ⟨zR BK195.out⟩, ⟨zT HB.out GE195.out⟩⟩
                    rw [if_neg c53] at H
                    exact absurd H (by simp)
                   rw [if_neg c52] at H
                   have c52b0 : decide (x17_5 < (x5_3.length : Int)) = false := decide_eq_false c52
                   clear c52
                   have H' := zA H
                   clear H
                   go_wp2
                   go_roundg k5
                   case measure => have := HK1.out; have := HK2.out; have := HK3.out; have := HK4.out; have := HK5.out; omega
                   case rel => exact ⟨(x13_5), (wrap64 (x14_4 + 1)), zs, H', ⟨by have := HK1.out; have := HK2.out; have := HK3.out; have := HK4.out; have := HK5.out; omega⟩, ⟨zP HO_5.out⟩, ⟨zPN HO_6.out⟩, ⟨zPN HO_9.out⟩, ⟨zPN HO_11.out⟩, ⟨zP HO_13.out⟩, ⟨zR BK195.out⟩, ⟨zT HB.out GE195.out⟩⟩
                rw [if_neg c46] at H
                exact absurd H (by simp)
               rw [if_neg c45] at H
               have c45b0 : decide (x14_4 < (x5_3.length : Int)) = false := decide_eq_false c45
               clear c45
               by_cases c79 : x11_3.length < 5864062014805
               ·rw [if_pos c79] at H
                have LMc79 := zA c79
                clear c79
                obtain ⟨y232, hy232⟩ : ∃ y_ : List (List Int), y_ = (x11_3 ++ [x13_4]) := ⟨_, rfl⟩
                replace H : (spec_l06First.l2 k4 a1 x5_3 x6_2 x9_2 x10_2 y232 (wrap64 (x12_3 + 1)) a0_0 l0_1) = some r := zy hy232 H
                have Ny232 := zA hy232
                clear hy232
                have H' := zA H
                clear H
                obtain ⟨Ao81, co81, eo81⟩ := kM HO_13.out
                subst eo81
                go_wp2_with (first | ((with_reducible refine gate_builtin (b := .append) (xs := #[.tmp 115, .tmp 117]) rfl ?_); at_builtin; refine Kd.N_append (Kd.slice 2 (Kd.int .i64)) (w0 := w) w.heap.size rfl (.tmp 115) (.tmp 117) 26 22 (.slice none 0 0) 24 rfl Tryd.underlying26 info22 rfl (by decide) (by omega) u11 x11_3 x13_4 [.slice Ao81 x13_4.length co81] (fun k_ => (w.heap.size ≤ k_) ∧ some k_ ≠ (.slice Ao42 x5_3.length co42 : Value).ownBlock ∧ some k_ ≠ (u6 : Value).ownBlock ∧ some k_ ≠ (u9 : Value).ownBlock ∧ k_ ≠ gb195) (fun k_ => ((fun k_ => (w.heap.size ≤ k_) ∧ some k_ ≠ (.slice Ao42 x5_3.length co42 : Value).ownBlock ∧ some k_ ≠ (u6 : Value).ownBlock ∧ some k_ ≠ (u9 : Value).ownBlock ∧ k_ ≠ gb195)) k_ ∧ some k_ ≠ (u11 : Value).ownBlock) rfl rfl ?aP (fun _ hk => hk) ?aF ?aO ?aB ?aS ?aL ?_; (case aP => exact (Kd.FK_slice_mk (kB (kA (ok' := (fun k_ => ((fun k_ => (w.heap.size ≤ k_) ∧ some k_ ≠ (.slice Ao42 x5_3.length co42 : Value).ownBlock ∧ some k_ ≠ (u6 : Value).ownBlock ∧ some k_ ≠ (u9 : Value).ownBlock ∧ k_ ≠ gb195)) k_ ∧ some k_ ≠ (u11 : Value).ownBlock)) (kD (Kd.R_apart' (Kd.R_apart' (Kd.R_apart' (HO_13.out) (Kd.N_typed HO_6.out) (by decide)) (Kd.N_typed HO_9.out) (by decide)) (Kd.N_typed HO_11.out) (by decide)) BK195.out (by decide)) (fun k_ hk => ⟨⟨hk.1.1.1.1.1, ⟨hk.1.1.1.1.2, ⟨hk.1.1.1.2, ⟨hk.1.1.2, hk.2⟩⟩⟩⟩, hk.1.2⟩))).2.1 (Kd.R_F (kA (ok' := (fun k_ => ((fun k_ => (w.heap.size ≤ k_) ∧ some k_ ≠ (.slice Ao42 x5_3.length co42 : Value).ownBlock ∧ some k_ ≠ (u6 : Value).ownBlock ∧ some k_ ≠ (u9 : Value).ownBlock ∧ k_ ≠ gb195)) k_ ∧ some k_ ≠ (u11 : Value).ownBlock)) (kD (Kd.R_apart' (Kd.R_apart' (Kd.R_apart' (HO_13.out) (Kd.N_typed HO_6.out) (by decide)) (Kd.N_typed HO_9.out) (by decide)) (Kd.N_typed HO_11.out) (by decide)) BK195.out (by decide)) (fun k_ hk => ⟨⟨hk.1.1.1.1.1, ⟨hk.1.1.1.1.2, ⟨hk.1.1.1.2, ⟨hk.1.1.2, hk.2⟩⟩⟩⟩, hk.1.2⟩))))); (case aB => exact (zT HB.out GE195.out)); (case aF => exact (fun k_ hk => ⟨(Nat.le_trans (kP (zT HB.out GE195.out)) hk), jF (kH (zP HO_5.out)) k_ hk, jF (jA (zPN HO_6.out)) k_ hk, jF (jA (zPN HO_9.out)) k_ hk, jE (g := gb195) (o := .cells #[.int .i64 a0_0, .slice A0_1 l0_1.length c0_1] 29 (0, 0)) (zR BK195.out) k_ hk⟩)); (case aO => exact (by (with_reducible repeat (first | apply Kd.N_alloc | apply Kd.N_drewN | apply Kd.N_drew)); exact Kd.N_mono HO_11.out (fun _ hk => ⟨hk.1, ⟨hk.2.1, ⟨hk.2.2.1, ⟨hk.2.2.2.1, hk.2.2.2.2.2⟩⟩⟩⟩))); (case aS => exact (kP (zT HB.out GE195.out))); (case aL => have := LMc79.out; omega); intro v233 w80 ho hb hg hat; rw [← Ny232.out] at ho; replace HO_5 := zA (Kd.R_over' (zP HO_5.out) (Kd.N_typed (zPN HO_11.out)) (by decide) hg); replace HO_6 := zA (Kd.N_afterv (ok := (fun k_ => (w.heap.size ≤ k_) ∧ some k_ ≠ (.slice Ao42 x5_3.length co42 : Value).ownBlock ∧ some k_ ≠ (u9 : Value).ownBlock ∧ some k_ ≠ (.slice Ao81 x13_4.length co81 : Value).ownBlock ∧ k_ ≠ gb195)) (by (with_reducible repeat (first | apply Kd.N_alloc | apply Kd.N_drewN | apply Kd.N_drew)); exact Kd.N_mono HO_6.out (fun _ hk => ⟨⟨hk.1, ⟨hk.2.1, ⟨hk.2.2.1, ⟨hk.2.2.2.2.1, hk.2.2.2.2.2⟩⟩⟩⟩, hk.2.2.2.1⟩)) hg hat); replace HO_9 := zA (Kd.N_afterv (ok := (fun k_ => (w.heap.size ≤ k_) ∧ some k_ ≠ (.slice Ao42 x5_3.length co42 : Value).ownBlock ∧ some k_ ≠ (u6 : Value).ownBlock ∧ some k_ ≠ (.slice Ao81 x13_4.length co81 : Value).ownBlock ∧ k_ ≠ gb195)) (by (with_reducible repeat (first | apply Kd.N_alloc | apply Kd.N_drewN | apply Kd.N_drew)); exact Kd.N_mono HO_9.out (fun _ hk => ⟨⟨hk.1, ⟨hk.2.1, ⟨hk.2.2.1, ⟨hk.2.2.2.2.1, hk.2.2.2.2.2⟩⟩⟩⟩, hk.2.2.2.1⟩)) hg hat); replace BK195 := zA (blk_grown (g := gb195) (o := .cells #[.int .i64 a0_0, .slice A0_1 l0_1.length c0_1] 29 (0, 0)) (zR BK195.out) hg (Kd.N_ne HO_11.out BK195.out (by decide))); replace HB := zA (hb); have HO234 := zA (ho); clear HO_11 HO_13; clear ho hb hg hat))
                go_roundg k4
                case measure => have := HK1.out; have := HK2.out; have := HK3.out; have := HK4.out; omega
                case rel => exact ⟨(x5_3), (y232), (wrap64 (x12_3 + 1)), zs, H', ⟨by have := HK1.out; have := HK2.out; have := HK3.out; have := HK4.out; omega⟩, ⟨zPM HO_5.out (fun _ hk => hk.1)⟩, ⟨by (with_reducible repeat (first | apply Kd.N_alloc | apply Kd.N_drewN | apply Kd.N_drew)); exact Kd.N_mono HO_6.out (fun _ hk => ⟨hk.1.1, ⟨hk.1.2.1, ⟨hk.1.2.2.1, ⟨hk.2, hk.1.2.2.2.2⟩⟩⟩⟩)⟩, ⟨by (with_reducible repeat (first | apply Kd.N_alloc | apply Kd.N_drewN | apply Kd.N_drew)); exact Kd.N_mono HO_9.out (fun _ hk => ⟨hk.1.1, ⟨hk.1.2.1, ⟨hk.1.2.2.1, ⟨hk.2, hk.1.2.2.2.2⟩⟩⟩⟩)⟩, ⟨zPN HO234.out⟩, ⟨zR BK195.out⟩, ⟨zT HB.out GE195.out⟩⟩
               rw [if_neg c79] at H
               exact absurd H (by simp)
            rw [if_neg c41] at H
            exact absurd H (by simp)
           rw [if_neg c40] at H
           exact absurd H (by simp)
          rw [if_neg c39] at H
          have c39b0 : decide (x12_3 ≤ a1) = false := decide_eq_false c39
          clear c39
          by_cases c82 : 0 ≤ a1
          ·rw [if_pos c82] at H
           have c82b0 : decide (0 ≤ a1) = true := decide_eq_true c82
           clear c82
           by_cases c83 : a1 < (x11_3.length : Int)
           ·rw [if_pos c83] at H
            have c83b0 : decide (a1 < (x11_3.length : Int)) = true := decide_eq_true c83
            clear c83
            obtain ⟨t223, A84, H⟩ := zb H
            try dsimp only at H
            by_cases c85 : x9_2.length < 5864062014805
            ·rw [if_pos c85] at H
             have LMc85 := zA c85
             clear c85
             obtain ⟨y226, hy226⟩ : ∃ y_ : List (List Int), y_ = (x9_2 ++ [t223]) := ⟨_, rfl⟩
             replace H : (spec_l06First.l1 k3 a1 x5_3 x11_3 y226 (wrap64 (x10_2 + 1)) a0_0 l0_1) = some r := zy hy226 H
             have Ny226 := zA hy226
             clear hy226
             have H' := zA H
             clear H
             obtain ⟨Ao86, co86, eo86⟩ := Kd.N_slice HO_11.out
             subst eo86
             have p222 : 0 ≤ (a1 : Int) := zd
             have q222 : a1 < (x11_3.length : Int) := zd
             obtain ⟨ad222, A222_0, c222_0, e222, hx222_0, hl222_0, hi222_0⟩ := at_L1 (Kd.N_reads' HO_11.out).2.2 a1 p222 q222
             cases e222
             obtain ⟨ce222, hce222, hMe222, hcc222⟩ := Kd.N_get HO_11.out [] a1 p222 (by first | exact q222 | exact zd | (have e_ := (Kd.N_reads' HO_11.out).1; omega))
             obtain ⟨ua222_0, uc222_0, rfl, ul222_0, ge222_0⟩ := Kd.FK_slice_open hMe222
             have hv222_0 := hcc222 0 _ rfl
             rw [Nat.add_zero, show ((Kd.slice 2 (Kd.int .i64))).sz = 1 from rfl, Nat.mul_one] at hv222_0
             replace hv222_0 := Option.some.inj (hv222_0.symm.trans hx222_0)
             injection hv222_0 with hva_ hvn_ hvc_
             rw [hva_] at ge222_0
             rw [hvc_] at ul222_0
             have HL222_0 := zA (show Kd.V (Kd.int .i64) 2 _ w.heap.size _ _ (rd_L1 x11_3 a1) from Kd.V_mk ul222_0 ge222_0)
             clear hva_ hvn_ hvc_ ge222_0 ul222_0 hcc222 hce222
             have HR222_0 := zA hi222_0
             have HC222_0 := zA hl222_0
             clear hi222_0 hl222_0
             replace p222 := eq_true p222
             replace q222 := eq_true q222
             go_wp2_with (first | (refine zO (some 125) Tryd.func46 #[.slice A222_0 (rd_L1 x11_3 a1).length c222_0] ?_; (with_reducible refine (spec_l01Own.calls _ _ (rd_L1 x11_3 a1) t223 _ ?side1 ?side2 A84.out).mono ?_); (case side1 => repeat (first | exact (by repeat (first | (with_reducible exact HR222_0.out) | (with_reducible refine Kd.C_alloc ?_ _) | (with_reducible refine Kd.C_drewN ?_ _) | (with_reducible refine Kd.C_drew ?_) | exact HR222_0.out)) | (with_reducible refine Kd.C_alloc ?_ _) | (with_reducible refine Kd.C_drewN ?_ _) | (with_reducible refine Kd.C_drew ?_))); (case side2 => exact HC222_0.out); rintro e w87 ⟨v224, rfl, ho0, hb⟩; refine ⟨_, rfl, ?_⟩; replace HO_6 := zA (Kd.N_elder' (zPN HO_6.out) (kC ho0) hb); replace HO_9 := zA (Kd.N_elder' (zPN HO_9.out) (kC ho0) hb); replace HO_11 := zA (Kd.N_elder' (zPN HO_11.out) (kC ho0) hb); replace HL222_0 := zA (kK (zPV HL222_0.out) (kC ho0) hb); have HO225 := zA (kI (kF (Kd.R_newM (M := fun k_ => (w.heap.size ≤ k_)) ho0 (kP (zT HB.out GE195.out)) (fun k_ h_ => h_)) (kH (zP HO_5.out))) (kP (zT HB.out GE195.out))); replace HO_5 := zA (kE (zP HO_5.out) (kC ho0) hb); replace BK195 := zA (zB1 BK195.out hb); replace HR222_0 := zA (kO (by repeat (first | (with_reducible exact HR222_0.out) | (with_reducible refine Kd.C_alloc ?_ _) | (with_reducible refine Kd.C_drewN ?_ _) | (with_reducible refine Kd.C_drew ?_) | exact HR222_0.out)) hb); replace HB := zA (kQ (zT HB.out GE195.out) hb); (try clear hb); (try clear ho0); obtain ⟨Ao89, co89, eo89⟩ := kM HO225.out; subst eo89) | ((with_reducible refine gate_builtin (b := .append) (xs := #[.tmp 120, .tmp 126]) rfl ?_); at_builtin; refine Kd.N_append (Kd.slice 2 (Kd.int .i64)) (w0 := w) w.heap.size rfl (.tmp 120) (.tmp 126) 26 22 (.slice none 0 0) 24 rfl Tryd.underlying26 info22 rfl (by decide) (by omega) u9 x9_2 t223 [.slice Ao89 t223.length co89] (fun k_ => (w.heap.size ≤ k_) ∧ some k_ ≠ (v197 : Value).ownBlock ∧ some k_ ≠ (u6 : Value).ownBlock ∧ some k_ ≠ (.slice (some ad222) x11_3.length co86 : Value).ownBlock ∧ k_ ≠ gb195) (fun k_ => ((fun k_ => (w.heap.size ≤ k_) ∧ some k_ ≠ (v197 : Value).ownBlock ∧ some k_ ≠ (u6 : Value).ownBlock ∧ some k_ ≠ (.slice (some ad222) x11_3.length co86 : Value).ownBlock ∧ k_ ≠ gb195)) k_ ∧ some k_ ≠ (u9 : Value).ownBlock) rfl rfl ?aP (fun _ hk => hk) ?aF ?aO ?aB ?aS ?aL ?_; (case aP => exact (Kd.FK_slice_mk (kB (kA (ok' := (fun k_ => ((fun k_ => (w.heap.size ≤ k_) ∧ some k_ ≠ (v197 : Value).ownBlock ∧ some k_ ≠ (u6 : Value).ownBlock ∧ some k_ ≠ (.slice (some ad222) x11_3.length co86 : Value).ownBlock ∧ k_ ≠ gb195)) k_ ∧ some k_ ≠ (u9 : Value).ownBlock)) (kD (Kd.R_apart' (Kd.R_apart' (Kd.R_apart' (HO225.out) (Kd.N_typed HO_6.out) (by decide)) (Kd.N_typed HO_11.out) (by decide)) (Kd.N_typed HO_9.out) (by decide)) BK195.out (by decide)) (fun k_ hk => ⟨⟨hk.1.1.1.1.1.1, ⟨hk.1.1.1.1.2, ⟨hk.1.1.1.2, ⟨hk.1.1.2, hk.2⟩⟩⟩⟩, hk.1.2⟩))).2.1 (Kd.R_F (kA (ok' := (fun k_ => ((fun k_ => (w.heap.size ≤ k_) ∧ some k_ ≠ (v197 : Value).ownBlock ∧ some k_ ≠ (u6 : Value).ownBlock ∧ some k_ ≠ (.slice (some ad222) x11_3.length co86 : Value).ownBlock ∧ k_ ≠ gb195)) k_ ∧ some k_ ≠ (u9 : Value).ownBlock)) (kD (Kd.R_apart' (Kd.R_apart' (Kd.R_apart' (HO225.out) (Kd.N_typed HO_6.out) (by decide)) (Kd.N_typed HO_11.out) (by decide)) (Kd.N_typed HO_9.out) (by decide)) BK195.out (by decide)) (fun k_ hk => ⟨⟨hk.1.1.1.1.1.1, ⟨hk.1.1.1.1.2, ⟨hk.1.1.1.2, ⟨hk.1.1.2, hk.2⟩⟩⟩⟩, hk.1.2⟩))))); (case aB => exact (zT HB.out GE195.out)); (case aF => exact (fun k_ hk => ⟨(Nat.le_trans (kP (zT HB.out GE195.out)) hk), jF (kH (zP HO_5.out)) k_ hk, jF (jA (zPN HO_6.out)) k_ hk, jF (jA (zPN HO_11.out)) k_ hk, jE (g := gb195) (o := .cells #[.int .i64 a0_0, .slice A0_1 l0_1.length c0_1] 29 (0, 0)) (zR BK195.out) k_ hk⟩)); (case aO => exact (by (with_reducible repeat (first | apply Kd.N_alloc | apply Kd.N_drewN | apply Kd.N_drew)); exact Kd.N_mono HO_9.out (fun _ hk => ⟨hk.1.1, ⟨hk.1.2.1, ⟨hk.1.2.2.1, ⟨hk.1.2.2.2.1, hk.1.2.2.2.2⟩⟩⟩⟩))); (case aS => exact (kP (zT HB.out GE195.out))); (case aL => have := LMc85.out; omega); intro v227 w88 ho hb hg hat; rw [← Ny226.out] at ho; replace HO_5 := zA (Kd.R_over' (zP HO_5.out) (Kd.N_typed (zPN HO_9.out)) (by decide) hg); replace HO_6 := zA (Kd.N_afterv (ok := (fun k_ => (w.heap.size ≤ k_) ∧ some k_ ≠ (v197 : Value).ownBlock ∧ some k_ ≠ (.slice (some ad222) x11_3.length co86 : Value).ownBlock ∧ some k_ ≠ (.slice Ao89 t223.length co89 : Value).ownBlock ∧ k_ ≠ gb195)) (by (with_reducible repeat (first | apply Kd.N_alloc | apply Kd.N_drewN | apply Kd.N_drew)); exact Kd.N_mono HO_6.out (fun _ hk => ⟨⟨hk.1.1, ⟨hk.1.2.1, ⟨hk.1.2.2.2.1, ⟨hk.2, hk.1.2.2.2.2⟩⟩⟩⟩, hk.1.2.2.1⟩)) hg hat); replace HO_11 := zA (Kd.N_afterv (ok := (fun k_ => (w.heap.size ≤ k_) ∧ some k_ ≠ (v197 : Value).ownBlock ∧ some k_ ≠ (u6 : Value).ownBlock ∧ some k_ ≠ (.slice Ao89 t223.length co89 : Value).ownBlock ∧ k_ ≠ gb195)) (by (with_reducible repeat (first | apply Kd.N_alloc | apply Kd.N_drewN | apply Kd.N_drew)); exact Kd.N_mono HO_11.out (fun _ hk => ⟨⟨hk.1.1, ⟨hk.1.2.1, ⟨hk.1.2.2.1, ⟨hk.2, hk.1.2.2.2.2⟩⟩⟩⟩, hk.1.2.2.2.1⟩)) hg hat); replace BK195 := zA (blk_grown (g := gb195) (o := .cells #[.int .i64 a0_0, .slice A0_1 l0_1.length c0_1] 29 (0, 0)) (zR BK195.out) hg (Kd.N_ne HO_9.out BK195.out (by decide))); replace HL222_0 := zA (Kd.V_afterv (ok := (fun k_ => (w.heap.size ≤ k_) ∧ some k_ ≠ (v197 : Value).ownBlock ∧ some k_ ≠ (u6 : Value).ownBlock ∧ some k_ ≠ (.slice (some ad222) x11_3.length co86 : Value).ownBlock ∧ some k_ ≠ (.slice Ao89 t223.length co89 : Value).ownBlock ∧ k_ ≠ gb195)) (by (with_reducible repeat (first | apply Kd.V_alloc | apply Kd.V_drewN | apply Kd.V_drew)); exact kN HL222_0.out (fun _ hk => ⟨⟨hk.1.1.1, ⟨hk.1.1.2.1, ⟨hk.1.1.2.2.1, ⟨hk.1.2, ⟨hk.2, hk.1.1.2.2.2.2⟩⟩⟩⟩⟩, hk.1.1.2.2.2.1⟩)) hg hat); replace HB := zA (hb); have HO228 := zA (ho); clear HO_9 HO225; clear ho hb hg hat))
             go_roundg k3
             case measure => have := HK1.out; have := HK2.out; have := HK3.out; omega
             case rel => exact ⟨(x5_3), (x11_3), (y226), (wrap64 (x10_2 + 1)), zs, H', ⟨by have := HK1.out; have := HK2.out; have := HK3.out; omega⟩, ⟨zPM HO_5.out (fun _ hk => hk.1)⟩, ⟨by (with_reducible repeat (first | apply Kd.N_alloc | apply Kd.N_drewN | apply Kd.N_drew)); exact Kd.N_mono HO_11.out (fun _ hk => ⟨hk.1.1, ⟨hk.1.2.1, ⟨hk.2, hk.1.2.2.2.2⟩⟩⟩)⟩, ⟨by (with_reducible repeat (first | apply Kd.N_alloc | apply Kd.N_drewN | apply Kd.N_drew)); exact Kd.N_mono HO228.out (fun _ hk => ⟨hk.1, ⟨hk.2.1, ⟨hk.2.2.2.1, hk.2.2.2.2⟩⟩⟩)⟩, ⟨zR BK195.out⟩, ⟨zT HB.out GE195.out⟩⟩
            rw [if_neg c85] at H
            exact absurd H (by simp)
           rw [if_neg c83] at H
           exact absurd H (by simp)
          rw [if_neg c82] at H
          exact absurd H (by simp)
       rw [if_neg c36] at H
       have c36b0 : decide (x10_2 ≤ a1) = false := decide_eq_false c36
       clear c36
       obtain rfl := Option.some.inj H
       go_wp2
       go_ret
       exact ⟨_, zr, by (with_reducible repeat (first | apply Kd.N_alloc | apply Kd.N_drewN | apply Kd.N_drew)); exact Kd.N_mono HO_9.out (fun _ hk => hk.1), zT HB.out GE195.out⟩
    rw [if_neg c29] at H
    exact absurd H (by simp)
   rw [if_neg c28] at H
   exact absurd H (by simp)

/-! ### spec_CountByFirst: function 15 -/
mutual
def spec_CountByFirst.j0 : Nat → Int → Int → Int → Bool → Int → List Int → Option (Int × Int)
 | 0, _, _, _, _, _, _ => none
 | k + 1, x1, x2, x8, x25, x249000, x249001 => if x25 = true then (spec_CountByFirst.j1 k x1 x2 2 x249000 x249001) else (spec_CountByFirst.j1 k x1 x2 x8 x249000 x249001)
def spec_CountByFirst.j1 : Nat → Int → Int → Int → Int → List Int → Option (Int × Int)
 | 0, _, _, _, _, _ => none
 | k + 1, x1, x2, x8, x249000, x249001 => if x8 = 0 then ((spec_l06Many.f k x249000 x249001 x1).bind fun t252 => (spec_CountByFirst.j2 k x1 x2 t252 x249000 x249001)) else (spec_CountByFirst.j2 k x1 x2 x8 x249000 x249001)
def spec_CountByFirst.j2 : Nat → Int → Int → Int → Int → List Int → Option (Int × Int)
 | 0, _, _, _, _, _ => none
 | k + 1, x1, x2, x8, x249000, x249001 => if x8 = 0 then ((spec_l02Steps.f k x249000 x249001).bind fun t253 => ((spec_l01Index.f k t253 x2).bind fun t256 => (if t256 < 0 then (some (0, 0)) else ((spec_l06First.f k x249000 x249001 x1).bind fun t257 => (spec_CountByFirst.l0 k t256 t257 0 0))))) else (some (0, x8))
def spec_CountByFirst.l0 : Nat → Int → List (List Int) → Int → Int → Option (Int × Int)
 | 0, _, _, _, _ => none
 | k + 1, x9, x10, x11, x12 => if x12 < (x10.length : Int) then (if 0 ≤ x12 then (if 0 ≤ x9 then (if x9 < ((rd_L1 x10 x12).length : Int) then (spec_CountByFirst.l0 k x9 x10 (wrap64 (x11 + (rd (rd_L1 x10 x12) x9))) (wrap64 (x12 + 1))) else (none)) else (none)) else (none)) else (some (x11, 0))
end
def spec_CountByFirst.f (k : Nat) (a0_0 : Int) (l0_1 : List Int) (a1 : Int) (a2 : Int) : Option (Int × Int) := (spec_l06Code.f k a0_0 l0_1 a1).bind fun t249 => (if t249 = 0 then ((spec_l01Full.f a0_0).bind fun t250 => ((spec_l01In.f a2 0 t250).bind fun t251 => (spec_CountByFirst.j0 k a1 a2 t249 (!t251) a0_0 l0_1))) else (spec_CountByFirst.j0 k a1 a2 t249 false a0_0 l0_1))

set_option maxHeartbeats 8000000 in
set_option maxRecDepth 100000 in
theorem spec_CountByFirst.calls (k : Nat) (a0_0 : Int) (A0_1 : Option Addr) (c0_1 : Nat) (l0_1 : List Int) (a1 : Int) (a2 : Int) (r1 : Int) (r2 : Int) (w : World) (hr0_1 : Kd.C (Kd.int .i64) w A0_1 l0_1.length l0_1) (hc0_1 : l0_1.length ≤ c0_1) (h : spec_CountByFirst.f k a0_0 l0_1 a1 a2 = some (r1, r2)) :
  Calls Tryd.prog 15 #[.agg #[.int .i64 a0_0, .slice A0_1 l0_1.length c0_1], .int .i64 a1, .int .i64 a2] w fun e w' => e = .returned (.tuple #[.int .i64 r1, .int .i64 r2]) ∧ Below w.heap.size w w' := by
 have hu29 := Tryd.underlying29
 have HR0_1 := zA hr0_1
 have HC0_1 := zA hc0_1
 clear hr0_1 hc0_1
 have HB := zA (kW w.heap.size w)
 have H := h
 unfold spec_CountByFirst.f at H
 clear h
 obtain ⟨t249, A4, H⟩ := zb H
 try dsimp only at H
 have HC5 := zA H
 clear H
 go_enter Tryd.func15, Tryd.ntmps15
 go_upto_region 2 with (first | (refine zBE 3 #[.int .i64 a0_0, .slice A0_1 l0_1.length c0_1] 29 ?_; intro gb248 hg w6 hbox hb; have BK248 := zA (hbox); have GW248 := zA (zBH hg HB.out); have GE248 := zA (zBH hg HB.out); replace HB := zA (kQ (zQ HB.out) hb); clear hb hbox hg; obtain ⟨hcz7_0, hcz7_1, hfz7_0, hfz7_1⟩ := zB3 BK248.out) | (refine zO (some 15) Tryd.func31 #[.agg #[.int .i64 a0_0, .slice A0_1 l0_1.length c0_1], .int .i64 a1] ?_; (with_reducible refine (spec_l06Code.calls k a0_0 _ _ l0_1 a1 t249 _ ?side1 ?side2 A4.out).mono ?_); (case side1 => exact zS (kO HR0_1.out HB.out)); (case side2 => exact HC0_1.out); rintro e w8 ⟨rfl, hb⟩; refine ⟨_, rfl, ?_⟩; replace BK248 := zA (zB1 BK248.out hb); replace HB := zA (kQ (zT HB.out GE248.out) hb); (try clear hb)))
 (try simp only [Act.put, zL, zM, zN])
 go_cut [25] (fun v25 wc => ∃ (kq : Nat) (x25_4 : Bool), v25 = .bool x25_4 ∧ Aside0 (spec_CountByFirst.j0 kq a1 a2 t249 x25_4 a0_0 l0_1 = some (r1, r2)) ∧ Aside0 (kq ≤ k) ∧ Aside0 (wc.heap[gb248]? = some (.cells #[.int .i64 a0_0, (.slice A0_1 l0_1.length c0_1)] 29 (0, 0))) ∧ Aside0 (Below w.heap.size w wc))
 case first =>
  have H := HC5.out
  clear HC5
  by_cases c9 : t249 = 0
  ·rw [if_pos c9] at H
   obtain ⟨c9b0, c9b1⟩ := zT1 c9
   clear c9
   (first | rw [c9b0] | (simp only [i64_w, i32_w]; rw [c9b0]) | skip)
   obtain ⟨t250, A10, H⟩ := zb H
   try dsimp only at H
   obtain ⟨t251, A11, H⟩ := zb H
   try dsimp only at H
   have H' := zA H
   clear H
   obtain ⟨hcz12_0, hcz12_1, hfz12_0, hfz12_1⟩ := zB3 BK248.out
   go_wp2_with (first | (go_at_call 33; (with_reducible refine (spec_l01Full.calls a0_0 t250 _ A10.out).mono ?_); rintro e w' ⟨rfl, ⟨nd, rfl⟩⟩) | (go_at_call 32; (with_reducible refine (spec_l01In.calls a2 0 t250 t251 _ A11.out).mono ?_); rintro e w' ⟨rfl, ⟨nd, rfl⟩⟩))
   go_meet
   case rel => exact ⟨_, (!t251), zs, H', ⟨by first | omega | exact Nat.le_refl _⟩, ⟨zR BK248.out⟩, ⟨zT HB.out GE248.out⟩⟩
  rw [if_neg c9] at H
  obtain ⟨c9b0, c9b1⟩ := zT2 c9
  (first | rw [c9b0] | (simp only [i64_w, i32_w]; rw [c9b0]) | skip)
  have H' := zA H
  clear H
  go_wp2
  go_meet
  case rel => exact ⟨_, (false), zs, H', ⟨by first | omega | exact Nat.le_refl _⟩, ⟨zR BK248.out⟩, ⟨zT HB.out GE248.out⟩⟩
 case rest =>
  clear HC5
  try clear c1
  try clear c3
  try clear c9
  try clear hcz12_0
  try clear hcz12_1
  try clear hcz7_0
  try clear hcz7_1
  try clear hfz12_0
  try clear hfz12_1
  try clear hfz7_0
  try clear hfz7_1
  obtain ⟨kq, x25_4, rfl, HA, HJ4, BK248, HB⟩ := hcut
  cases kq with
  | zero => exact absurd HA.out (by simp [spec_CountByFirst.j0])
  | succ kj4 =>
   have H := HA.out
   clear HA
   simp only [spec_CountByFirst.j0] at H
   have HC13 := zA H
   clear H
   go_upto_if 25 with (fail)
   go_cut [8] (fun v8 wc => ∃ (kq : Nat) (x8_12 : Int), v8 = .int .i64 x8_12 ∧ Aside0 (spec_CountByFirst.j1 kq a1 a2 x8_12 a0_0 l0_1 = some (r1, r2)) ∧ Aside0 (kq ≤ kj4) ∧ Aside0 (wc.heap[gb248]? = some (.cells #[.int .i64 a0_0, (.slice A0_1 l0_1.length c0_1)] 29 (0, 0))) ∧ Aside0 (Below w.heap.size w wc))
   case first =>
    have H := HC13.out
    clear HC13
    by_cases c14 : x25_4 = true
    ·subst c14
     rw [if_pos rfl] at H
     have H' := zA H
     clear H
     go_wp2
     go_meet
     case rel => exact ⟨_, (2), zs, H', ⟨by have := HJ4.out; first | omega | exact Nat.le_refl _⟩, ⟨zR BK248.out⟩, ⟨zT HB.out GE248.out⟩⟩
    replace c14 := Bool.eq_false_iff.mpr c14
    subst c14
    rw [if_neg (show ¬ (false = true) by decide)] at H
    have H' := zA H
    clear H
    go_wp2
    go_meet
    case rel => exact ⟨_, (t249), zs, H', ⟨by have := HJ4.out; first | omega | exact Nat.le_refl _⟩, ⟨zR BK248.out⟩, ⟨zT HB.out GE248.out⟩⟩
   case rest =>
    clear HC13
    try clear c1
    try clear c3
    try clear c9
    try clear c14
    try clear hcz12_0
    try clear hcz12_1
    try clear hcz7_0
    try clear hcz7_1
    try clear hfz12_0
    try clear hfz12_1
    try clear hfz7_0
    try clear hfz7_1
    obtain ⟨kq, x8_12, rfl, HA, HJ12, BK248, HB⟩ := hcut
    cases kq with
    | zero => exact absurd HA.out (by simp [spec_CountByFirst.j1])
    | succ kj12 =>
     have H := HA.out
     clear HA
     simp only [spec_CountByFirst.j1] at H
     have HC15 := zA H
     clear H
     go_upto_if 27 with (fail)
     go_cut [8] (fun v8 wc => ∃ (kq : Nat) (x8_14 : Int), v8 = .int .i64 x8_14 ∧ Aside0 (spec_CountByFirst.j2 kq a1 a2 x8_14 a0_0 l0_1 = some (r1, r2)) ∧ Aside0 (kq ≤ kj12) ∧ Aside0 (wc.heap[gb248]? = some (.cells #[.int .i64 a0_0, (.slice A0_1 l0_1.length c0_1)] 29 (0, 0))) ∧ Aside0 (Below w.heap.size w wc))
     case first =>
      have H := HC15.out
      clear HC15
      by_cases c16 : x8_12 = 0
      ·rw [if_pos c16] at H
       obtain ⟨c16b0, c16b1⟩ := zT1 c16
       clear c16
       (first | rw [c16b0] | (simp only [i64_w, i32_w]; rw [c16b0]) | skip)
       obtain ⟨t252, A17, H⟩ := zb H
       try dsimp only at H
       have H' := zA H
       clear H
       obtain ⟨hcz18_0, hcz18_1, hfz18_0, hfz18_1⟩ := zB3 BK248.out
       go_wp2_with (first | (refine zO (some 30) Tryd.func34 #[.agg #[.int .i64 a0_0, .slice A0_1 l0_1.length c0_1], .int .i64 a1] ?_; (with_reducible refine (spec_l06Many.calls kj12 a0_0 _ _ l0_1 a1 t252 _ ?side1 ?side2 A17.out).mono ?_); (case side1 => exact zS (kO HR0_1.out HB.out)); (case side2 => exact HC0_1.out); rintro e w19 ⟨rfl, hb⟩; refine ⟨_, rfl, ?_⟩; replace BK248 := zA (zB1 BK248.out hb); replace HB := zA (kQ (zT HB.out GE248.out) hb); (try clear hb)))
       go_meet
       case rel => exact ⟨_, (t252), zs, H', ⟨by have := HJ4.out; have := HJ12.out; first | omega | exact Nat.le_refl _⟩, ⟨zR BK248.out⟩, ⟨zT HB.out GE248.out⟩⟩
      rw [if_neg c16] at H
      obtain ⟨c16b0, c16b1⟩ := zT2 c16
      (first | rw [c16b0] | (simp only [i64_w, i32_w]; rw [c16b0]) | skip)
      have H' := zA H
      clear H
      go_wp2
      go_meet
      case rel => exact ⟨_, (x8_12), zs, H', ⟨by have := HJ4.out; have := HJ12.out; first | omega | exact Nat.le_refl _⟩, ⟨zR BK248.out⟩, ⟨zT HB.out GE248.out⟩⟩
     case rest =>
      clear HC15
      try clear c1
      try clear c3
      try clear c9
      try clear c14
      try clear c15
      try clear c16
      try clear hcz12_0
      try clear hcz12_1
      try clear hcz18_0
      try clear hcz18_1
      try clear hcz7_0
      try clear hcz7_1
      try clear hfz12_0
      try clear hfz12_1
      try clear hfz18_0
      try clear hfz18_1
      try clear hfz7_0
      try clear hfz7_1
      obtain ⟨kq, x8_14, rfl, HA, HJ14, BK248, HB⟩ := hcut
      cases kq with
      | zero => exact absurd HA.out (by simp [spec_CountByFirst.j2])
      | succ kj14 =>
       have H := HA.out
       clear HA
       simp only [spec_CountByFirst.j2] at H
       by_cases c20 : x8_14 = 0
       ·rw [if_pos c20] at H
        obtain ⟨c20b0, c20b1⟩ := zT1 c20
        clear c20
        obtain ⟨t253, A21, H⟩ := zb H
        try dsimp only at H
        obtain ⟨t256, A22, H⟩ := zb H
        try dsimp only at H
        by_cases c23 : t256 < 0
        ·rw [if_pos c23] at H
         have c23b0 : decide (t256 < 0) = true := decide_eq_true c23
         clear c23
         simp only [Option.some.injEq, Prod.mk.injEq] at H
         obtain ⟨rfl, rfl⟩ := H
         obtain ⟨hcz24_0, hcz24_1, hfz24_0, hfz24_1⟩ := zB3 BK248.out
         go_wp2_with (first | (refine zO (some 35) Tryd.func36 #[.agg #[.int .i64 a0_0, .slice A0_1 l0_1.length c0_1]] ?_; (with_reducible refine (spec_l02Steps.calls kj14 a0_0 _ _ l0_1 t253 _ ?side1 ?side2 A21.out).mono ?_); (case side1 => exact zS (kO HR0_1.out HB.out)); (case side2 => exact HC0_1.out); rintro e w25 ⟨v254, rfl, ho0, hb⟩; refine ⟨_, rfl, ?_⟩; have HO255 := zA (kI ho0 (kP (zT HB.out GE248.out))); replace BK248 := zA (zB1 BK248.out hb); replace HB := zA (kQ (zT HB.out GE248.out) hb); (try clear hb); (try clear ho0); obtain ⟨Ao26, co26, eo26⟩ := kM HO255.out; subst eo26) | (refine zO (some 37) Tryd.func35 #[.slice Ao26 t253.length co26, .int .i64 a2] ?_; (with_reducible refine (spec_l01Index.calls kj14 _ _ t253 a2 t256 _ ?side1 ?side2 A22.out).mono ?_); (case side1 => exact zS (kB HO255.out).2.2); (case side2 => exact (kB HO255.out).2.1); rintro e w' ⟨rfl, ⟨nd, rfl⟩⟩; refine ⟨_, rfl, ?_⟩))
         go_ret2
         exact ⟨zr, zT HB.out GE248.out⟩
        rw [if_neg c23] at H
        have c23b0 : decide (t256 < 0) = false := decide_eq_false c23
        clear c23
        obtain ⟨t257, A27, H⟩ := zb H
        try dsimp only at H
        have H' := zA H
        clear H
        obtain ⟨hcz28_0, hcz28_1, hfz28_0, hfz28_1⟩ := zB3 BK248.out
        go_wp2_with (first | (refine zO (some 35) Tryd.func36 #[.agg #[.int .i64 a0_0, .slice A0_1 l0_1.length c0_1]] ?_; (with_reducible refine (spec_l02Steps.calls kj14 a0_0 _ _ l0_1 t253 _ ?side1 ?side2 A21.out).mono ?_); (case side1 => exact zS (kO HR0_1.out HB.out)); (case side2 => exact HC0_1.out); rintro e w29 ⟨v254, rfl, ho0, hb⟩; refine ⟨_, rfl, ?_⟩; have HO255 := zA (kI ho0 (kP (zT HB.out GE248.out))); replace BK248 := zA (zB1 BK248.out hb); replace HB := zA (kQ (zT HB.out GE248.out) hb); (try clear hb); (try clear ho0); obtain ⟨Ao30, co30, eo30⟩ := kM HO255.out; subst eo30) | (refine zO (some 37) Tryd.func35 #[.slice Ao30 t253.length co30, .int .i64 a2] ?_; (with_reducible refine (spec_l01Index.calls kj14 _ _ t253 a2 t256 _ ?side1 ?side2 A22.out).mono ?_); (case side1 => exact zS (kB HO255.out).2.2); (case side2 => exact (kB HO255.out).2.1); rintro e w' ⟨rfl, ⟨nd, rfl⟩⟩; refine ⟨_, rfl, ?_⟩; obtain ⟨hcz31_0, hcz31_1, hfz31_0, hfz31_1⟩ := zB3 BK248.out) | (refine zO (some 42) Tryd.func37 #[.agg #[.int .i64 a0_0, .slice A0_1 l0_1.length c0_1], .int .i64 a1] ?_; (with_reducible refine (spec_l06First.calls kj14 a0_0 _ _ l0_1 a1 t257 _ ?side1 ?side2 A27.out).mono ?_); (case side1 => exact zS (kO HR0_1.out (zT HB.out GE248.out))); (case side2 => exact HC0_1.out); rintro e w32 ⟨v258, rfl, ho0, hb⟩; refine ⟨_, rfl, ?_⟩; have HO259 := zA (jN (Kd.N_mono (ok' := fun k_ => some k_ ≠ (.slice Ao30 t253.length co30 : Value).ownBlock ∧ k_ ≠ gb248) ho0 (fun k_ hk_ => ⟨(jF (kH (zP HO255.out)) k_ hk_), (jE (g := gb248) (o := .cells #[.int .i64 a0_0, .slice A0_1 l0_1.length c0_1] 29 (0, 0)) (zR BK248.out) k_ hk_)⟩)) (kP (zT HB.out GE248.out))); replace HO255 := zA (kL (zP HO255.out) hb); replace BK248 := zA (zB1 BK248.out hb); replace HB := zA (kQ (zT HB.out GE248.out) hb); (try clear hb); (try clear ho0)))
        go_loopg [11, 12] kj14 (fun kq v11 v12 w' => ∃ (x11_4 : Int) (x12_4 : Int), v11 = .int .i64 x11_4 ∧ v12 = .int .i64 x12_4 ∧ Aside0 (spec_CountByFirst.l0 kq t256 t257 x11_4 x12_4 = some (r1, r2)) ∧ Aside0 (kq ≤ kj14) ∧ Aside0 (Kd.N (Kd.slice 2 (Kd.int .i64)) 22 w' w.heap.size (fun k_ => k_ ≠ gb248) v258 t257) ∧ Aside0 (w'.heap[gb248]? = some (.cells #[.int .i64 a0_0, (.slice A0_1 l0_1.length c0_1)] 29 (0, 0))) ∧ Aside0 (Below w.heap.size w w'))
        case atStart => exact ⟨(0), (0), zs, zs, H', ⟨Nat.le_refl _⟩, ⟨by (with_reducible repeat (first | apply Kd.N_alloc | apply Kd.N_drewN | apply Kd.N_drew)); exact Kd.N_mono HO259.out (fun _ hk => hk.2)⟩, ⟨zR BK248.out⟩, ⟨zT HB.out GE248.out⟩⟩
        case round =>
         clear H'
         try clear c1
         try clear c2
         try clear c3
         try clear c9
         try clear c14
         try clear c15
         try clear c16
         try clear c20
         try clear c23
         try clear c31
         try clear hcz12_0
         try clear hcz12_1
         try clear hcz18_0
         try clear hcz18_1
         try clear hcz24_0
         try clear hcz24_1
         try clear hcz28_0
         try clear hcz28_1
         try clear hcz31_0
         try clear hcz31_1
         try clear hcz7_0
         try clear hcz7_1
         try clear hfz12_0
         try clear hfz12_1
         try clear hfz18_0
         try clear hfz18_1
         try clear hfz24_0
         try clear hfz24_1
         try clear hfz28_0
         try clear hfz28_1
         try clear hfz31_0
         try clear hfz31_1
         try clear hfz7_0
         try clear hfz7_1
         obtain ⟨x11_4, x12_4, rfl, rfl, HA, HK4, HO_10, BK248, HB⟩ := hrel
         cases gk with
         | zero => exact absurd HA.out (by simp [spec_CountByFirst.l0])
         | succ k4 =>
          have H := HA.out
          clear HA
          simp only [spec_CountByFirst.l0] at H
          by_cases c33 : x12_4 < (t257.length : Int)
          ·rw [if_pos c33] at H
           have c33b0 : decide (x12_4 < (t257.length : Int)) = true := decide_eq_true c33
           clear c33
           by_cases c34 : 0 ≤ x12_4
           ·rw [if_pos c34] at H
            have c34b0 : decide (0 ≤ x12_4) = true := decide_eq_true c34
            clear c34
            by_cases c35 : 0 ≤ t256
            ·rw [if_pos c35] at H
             have c35b0 : decide (0 ≤ t256) = true := decide_eq_true c35
             clear c35
             by_cases c36 : t256 < ((rd_L1 t257 x12_4).length : Int)
             ·rw [if_pos c36] at H
              have c36b0 : decide (t256 < ((rd_L1 t257 x12_4).length : Int)) = true := decide_eq_true c36
              clear c36
              have H' := zA H
              clear H
              obtain ⟨Ao37, co37, eo37⟩ := Kd.N_slice HO_10.out
              subst eo37
              have p260 : 0 ≤ (x12_4 : Int) := zd
              have q260 : x12_4 < (t257.length : Int) := zd
              obtain ⟨ad260, A260_0, c260_0, e260, hx260_0, hl260_0, hi260_0⟩ := at_L1 (Kd.N_reads' HO_10.out).2.2 x12_4 p260 q260
              cases e260
              obtain ⟨ce260, hce260, hMe260, hcc260⟩ := Kd.N_get HO_10.out [] x12_4 p260 (by first | exact q260 | exact zd | (have e_ := (Kd.N_reads' HO_10.out).1; omega))
              obtain ⟨ua260_0, uc260_0, rfl, ul260_0, ge260_0⟩ := Kd.FK_slice_open hMe260
              have hv260_0 := hcc260 0 _ rfl
              rw [Nat.add_zero, show ((Kd.slice 2 (Kd.int .i64))).sz = 1 from rfl, Nat.mul_one] at hv260_0
              replace hv260_0 := Option.some.inj (hv260_0.symm.trans hx260_0)
              injection hv260_0 with hva_ hvn_ hvc_
              rw [hva_] at ge260_0
              rw [hvc_] at ul260_0
              have HL260_0 := zA (show Kd.V (Kd.int .i64) 2 _ w.heap.size _ _ (rd_L1 t257 x12_4) from Kd.V_mk ul260_0 ge260_0)
              clear hva_ hvn_ hvc_ ge260_0 ul260_0 hcc260 hce260
              have HR260_0 := zA hi260_0
              have HC260_0 := zA hl260_0
              clear hi260_0 hl260_0
              replace p260 := eq_true p260
              replace q260 := eq_true q260
              have p261 : 0 ≤ (t256 : Int) := zd
              have q261 : t256 < ((rd_L1 t257 x12_4).length : Int) := zd
              obtain ⟨ad261, e261, hx261_0⟩ := Kd.at_int (by repeat (first | (with_reducible exact HR260_0.out) | (with_reducible refine Kd.C_alloc ?_ _) | (with_reducible refine Kd.C_drewN ?_ _) | (with_reducible refine Kd.C_drew ?_) | exact HR260_0.out)) t256 p261 q261
              cases e261
              replace p261 := eq_true p261
              replace q261 := eq_true q261
              go_wp2
              go_roundg k4
              case measure => have := HJ4.out; have := HJ12.out; have := HJ14.out; have := HK4.out; omega
              case rel => exact ⟨(wrap64 (x11_4 + (rd (rd_L1 t257 x12_4) t256))), (wrap64 (x12_4 + 1)), zs, zs, H', ⟨by have := HJ4.out; have := HJ12.out; have := HJ14.out; have := HK4.out; omega⟩, ⟨zPN HO_10.out⟩, ⟨zR BK248.out⟩, ⟨zT HB.out GE248.out⟩⟩
             rw [if_neg c36] at H
             exact absurd H (by simp)
            rw [if_neg c35] at H
            exact absurd H (by simp)
           rw [if_neg c34] at H
           exact absurd H (by simp)
          rw [if_neg c33] at H
          have c33b0 : decide (x12_4 < (t257.length : Int)) = false := decide_eq_false c33
          clear c33
          simp only [Option.some.injEq, Prod.mk.injEq] at H
          obtain ⟨rfl, rfl⟩ := H
          obtain ⟨Ao38, co38, eo38⟩ := Kd.N_slice HO_10.out
          subst eo38
          go_wp2
          go_ret2
          exact ⟨zr, zT HB.out GE248.out⟩
       rw [if_neg c20] at H
       obtain ⟨c20b0, c20b1⟩ := zT2 c20
       simp only [Option.some.injEq, Prod.mk.injEq] at H
       obtain ⟨rfl, rfl⟩ := H
       go_wp2
       go_ret2
       exact ⟨zr, zT HB.out GE248.out⟩

/-! ### impl_inRange: function 39 -/
def impl_inRange.f (a0 : Int) (a1 : Int) (a2 : Int) : Option (Bool) := if a1 ≤ a0 then (some (decide (a0 ≤ a2))) else (some false)
set_option maxHeartbeats 8000000 in
set_option maxRecDepth 100000 in
theorem impl_inRange.calls (a0 : Int) (a1 : Int) (a2 : Int) (r : Bool) (w : World) (h : impl_inRange.f a0 a1 a2 = some r) :
  Calls Tryd.prog 39 #[.int .i64 a0, .int .i64 a1, .int .i64 a2] w fun e w' => e = .returned (.bool r) ∧ Drawn0 w w' := by
 have H := h
 unfold impl_inRange.f at H
 clear h
 by_cases c4 : a1 ≤ a0
 ·rw [if_pos c4] at H
  have c4b0 : decide (a1 ≤ a0) = true := decide_eq_true c4
  clear c4
  obtain rfl := Option.some.inj H
  go_enter Tryd.func39, Tryd.ntmps39
  go_wp2
  go_ret
  exact ⟨zs, by repeat (first | exact Drawn0.refl _ | apply Drawn0.step)⟩
 rw [if_neg c4] at H
 have c4b0 : decide (a1 ≤ a0) = false := decide_eq_false c4
 clear c4
 obtain rfl := Option.some.inj H
 go_enter Tryd.func39, Tryd.ntmps39
 go_wp2
 go_ret
 exact ⟨zs, by repeat (first | exact Drawn0.refl _ | apply Drawn0.step)⟩

/-! ### impl_length_int64: function 51 -/
def impl_length_int64.f (l0 : List Int) : Option (Int) := some (l0.length : Int)
set_option maxHeartbeats 8000000 in
set_option maxRecDepth 100000 in
theorem impl_length_int64.calls (A0 : Option Addr) (c0 : Nat) (l0 : List Int) (r : Int) (w : World) (hr0 : Kd.C (Kd.int .i64) w A0 l0.length l0) (hc0 : l0.length ≤ c0) (h : impl_length_int64.f l0 = some r) :
  Calls Tryd.prog 51 #[.slice A0 l0.length c0] w fun e w' => e = .returned (.int .i64 r) ∧ Drawn0 w w' := by
 have HR0 := zA hr0
 have HC0 := zA hc0
 clear hr0 hc0
 have H := h
 unfold impl_length_int64.f at H
 clear h
 obtain rfl := Option.some.inj H
 go_enter Tryd.func51, Tryd.ntmps51
 go_wp2
 go_ret
 exact ⟨zs, by repeat (first | exact Drawn0.refl _ | apply Drawn0.step)⟩

/-! ### impl_has: function 52 -/
def impl_has.f (a0 : Int) (a1 : Int) : Option (Bool) := if 0 ≤ a1 then (some ((Go.bits .and .i64 (shr .i64 a0 a1) 1) == 1)) else (none)
set_option maxHeartbeats 8000000 in
set_option maxRecDepth 100000 in
theorem impl_has.calls (a0 : Int) (a1 : Int) (r : Bool) (w : World) (h : impl_has.f a0 a1 = some r) :
  Calls Tryd.prog 52 #[.int .i64 a0, .int .i64 a1] w fun e w' => e = .returned (.bool r) ∧ Drawn0 w w' := by
 have H := h
 unfold impl_has.f at H
 clear h
 by_cases c3 : 0 ≤ a1
 ·rw [if_pos c3] at H
  have c3b0 := eq_true c3
  have c3b1 : decide (0 ≤ a1) = true := decide_eq_true c3
  clear c3
  obtain ⟨ji4, hji4⟩ : ∃ j_ : Int, (shr .i64 a0 a1) = j_ := ⟨_, rfl⟩
  replace H : (some ((Go.bits .and .i64 (ji4) 1) == 1)) = some r := by first | (rw [hji4] at H; exact H) | (simp only [hji4] at H ⊢; exact H)
  have hji4_ : (a0 / 2 ^ min a1.toNat 64) = ji4 := hji4
  have hji4z : a1 ≤ 64 → (a0 / 2 ^ a1.toNat) = ji4 := shr_small hji4
  obtain rfl := Option.some.inj H
  go_enter Tryd.func52, Tryd.ntmps52
  go_wp2
  go_ret
  exact ⟨by first | rfl | (simp; done) | (simp only [← hji4] <;> (first | rfl | simp)) | (simp [*]; done), by repeat (first | exact Drawn0.refl _ | apply Drawn0.step)⟩
 rw [if_neg c3] at H
 exact absurd H (by simp)

/-! ### impl_one: function 61 -/
def impl_one.f (a0 : Int) : Option (Int) := if 0 ≤ a0 then (some (shl .i64 1 a0)) else (none)
set_option maxHeartbeats 8000000 in
set_option maxRecDepth 100000 in
theorem impl_one.calls (a0 : Int) (r : Int) (w : World) (h : impl_one.f a0 = some r) :
  Calls Tryd.prog 61 #[.int .i64 a0] w fun e w' => e = .returned (.int .i64 r) ∧ Drawn0 w w' := by
 have H := h
 unfold impl_one.f at H
 clear h
 by_cases c2 : 0 ≤ a0
 ·rw [if_pos c2] at H
  have c2b0 := eq_true c2
  have c2b1 : decide (0 ≤ a0) = true := decide_eq_true c2
  clear c2
  obtain ⟨ji3, hji3⟩ : ∃ j_ : Int, (shl .i64 1 a0) = j_ := ⟨_, rfl⟩
  replace H : (some ji3) = some r := by first | (rw [hji3] at H; exact H) | (simp only [hji3] at H ⊢; exact H)
  have hji3_ : (IntKind.i64.wrap (1 * 2 ^ min a0.toNat 64)) = ji3 := hji3
  have hji3z : a0 ≤ 64 → (IntKind.i64.wrap (1 * 2 ^ a0.toNat)) = ji3 := shl_small hji3
  have hji3u : (IntKind.i64.wrap (2 ^ min a0.toNat 64)) = ji3 := by have h_ := hji3_; rw [Int.one_mul] at h_; exact h_
  have hji3v : a0 ≤ 64 → (IntKind.i64.wrap (2 ^ a0.toNat)) = ji3 := fun hle_ => by have h_ := hji3z hle_; rw [Int.one_mul] at h_; exact h_
  have hji3y : (wrap64 (1 * 2 ^ min a0.toNat 64)) = ji3 := (i64_w _).symm.trans hji3_
  have hji3x : a0 ≤ 64 → (wrap64 (1 * 2 ^ a0.toNat)) = ji3 := fun h_ => (i64_w _).symm.trans (hji3z h_)
  obtain rfl := Option.some.inj H
  go_enter Tryd.func61, Tryd.ntmps61
  go_wp2
  go_ret
  exact ⟨by first | rfl | (simp; done) | (simp only [← hji3] <;> (first | rfl | simp)) | (simp [*]; done), by repeat (first | exact Drawn0.refl _ | apply Drawn0.step)⟩
 rw [if_neg c2] at H
 exact absurd H (by simp)

-- NOT PRINTED: function 74 (slices_IndexFunc_int64_int64)

-- NOT PRINTED: function 65 (slices_ContainsFunc_int64_int64)

/-! ### impl_allIn: function 69: a contract of our own -/
def impl_allIn.f (l0 : List Int) (a1 a2 : Int) : Option Bool := some (l0.all fun x => decide (a1 ≤ x ∧ x ≤ a2))
theorem allIn_pred (l : List Int) (lo hi : Int) (B : Nat) (w : World) (hB : B + 1 < w.heap.size) (h1 : w.cell? ⟨B, 0, none⟩ = some (.int .i64 lo)) (h2 : w.cell? ⟨B + 1, 0, none⟩ = some (.int .i64 hi)) :
  PredOf 76 #[.pointer (some ⟨B, 0, none⟩), .pointer (some ⟨B + 1, 0, none⟩)] (fun x => !decide (lo ≤ x ∧ x ≤ hi)) w l := fun W x _ hb => by
 have hc1 : W.cell? ⟨B, 0, none⟩ = some (.int .i64 lo) := (hb.cell (p := ⟨B, 0, none⟩) (by simp; omega)).trans h1
 have hc2 : W.cell? ⟨B + 1, 0, none⟩ = some (.int .i64 hi) := (hb.cell (p := ⟨B + 1, 0, none⟩) (by simpa using hB)).trans h2
 clear h1 h2 hb
 show Calls Tryd.prog 76 #[.int .i64 x, .pointer (some ⟨B, 0, none⟩), .pointer (some ⟨B + 1, 0, none⟩)] W _
 by_cases c1 : lo ≤ x <;> by_cases c2 : x ≤ hi
 all_goals
  go_enter Tryd.func76, Tryd.ntmps76
  go_wp2
  go_ret
  exact ⟨by simp [c1, c2], kW _ _⟩
theorem impl_allIn.calls (A0 : Option Addr) (c0 : Nat) (l0 : List Int) (a1 : Int) (a2 : Int) (r : Bool) (w : World) (hr0 : Kd.C (Kd.int .i64) w A0 l0.length l0) (hc0 : l0.length ≤ c0) (h : impl_allIn.f l0 a1 a2 = some r) :
  Calls Tryd.prog 69 #[.slice A0 l0.length c0, .int .i64 a1, .int .i64 a2] w fun e w' => e = .returned (.bool r) ∧ Below w.heap.size w w' := by
 have hW : Below w.heap.size w ((w.alloc (.cells #[.int .i64 a1] 2)).alloc (.cells #[.int .i64 a2] 2)) := zB (zB (kW _ w) _) _
 have eg : ∀ args w, (callFunc 76 args).run Tryd.prog w = .ok (.enter 76 args) w := enters_fn Tryd.func76 (by kernel_rfl) rfl
 have hcon := containsFunc_any A0 c0 l0 76 #[.pointer (some ⟨w.heap.size, 0, none⟩), .pointer (some ⟨w.heap.size + 1, 0, none⟩)] (fun x => !decide (a1 ≤ x ∧ x ≤ a2)) _ eg
  (allIn_pred l0 a1 a2 w.heap.size ((w.alloc (.cells #[.int .i64 a1] 2)).alloc (.cells #[.int .i64 a2] 2)) (by simp) (by simp) (by simp)) (kO hr0 hW)
 have hr : (!(l0.any fun x => !decide (a1 ≤ x ∧ x ≤ a2))) = r := by
  have := Option.some.inj h
  rw [← this, List.all_eq_not_any_not]
 clear h hr0 eg
 generalize (l0.any fun x => !decide (a1 ≤ x ∧ x ≤ a2)) = b at hcon hr
 subst hr
 replace hW := zA hW
 go_enter Tryd.func69, Tryd.ntmps69
 go_wp2_with fail
 refine hcon.mono ?_
 rintro e w' ⟨rfl, hb⟩
 replace hb := zA hb
 clear hcon
 go_wp2
 go_ret
 exact ⟨rfl, kQ hW.out hb.out⟩

end Go.Proofs.YtemdfjdmokbcoaaDoor.PAll
