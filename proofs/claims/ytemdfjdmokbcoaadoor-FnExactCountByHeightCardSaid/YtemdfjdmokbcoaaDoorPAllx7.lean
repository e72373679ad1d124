-- Printed by a program of the session (wip/tools/pgen.py) out of the translation. Not trusted: Lean checks it.
import Derived.Test.YtemdfjdmokbcoaaDoorPAllx0
import Derived.Test.YtemdfjdmokbcoaaDoorPAllx3
import Derived.Test.YtemdfjdmokbcoaaDoorPAllx4
namespace Go.Proofs.YtemdfjdmokbcoaaDoor.PAll
open Go.RowKit Go.Proofs.YtemdfjdmokbcoaaDoor.T Go.Proofs.YtemdfjdmokbcoaaDoorW.PrintWords Go.Proofs.YtemdfjdmokbcoaaDoorW.PrintLast Go.Proofs.YtemdfjdmokbcoaaDoorW.PrintMore
attribute [local go_sem] max2_int min2_int max_two min_two max_three min_three max_four min_four   -- for this text's walks alone
set_option linter.unusedVariables false
set_option linter.unusedSimpArgs false

/-! ### slices_partitionEqualOrdered_int64: function 89 -/
mutual
def slices_partitionEqualOrdered_int64.l0 : Nat → List Int → Int → Int → Int → Option (Int × List Int)
 | 0, _, _, _, _ => none
 | k + 1, x0, x1, x9, x10 => slices_partitionEqualOrdered_int64.l1 k x0 x1 x9 x10
def slices_partitionEqualOrdered_int64.j2 : Nat → List Int → Int → Int → Int → Option (Int × List Int)
 | 0, _, _, _, _ => none
 | k + 1, x0, x1, x9, x10 => slices_partitionEqualOrdered_int64.l2 k x0 x1 x9 x10
def slices_partitionEqualOrdered_int64.l2 : Nat → List Int → Int → Int → Int → Option (Int × List Int)
 | 0, _, _, _, _ => none
 | k + 1, x0, x1, x9, x10 => if x9 ≤ x10 then (if 0 ≤ x1 then (if x1 < (x0.length : Int) then (if 0 ≤ x10 then (if x10 < (x0.length : Int) then ((cmp_Less_int64.f (rd x0 x1) (rd x0 x10)).bind fun t393 => (if t393 = true then (slices_partitionEqualOrdered_int64.l2 k x0 x1 x9 (wrap64 (x10 - 1))) else (if x9 > x10 then (some (x9, x0)) else (if 0 ≤ x9 then (if x9 < (x0.length : Int) then (slices_partitionEqualOrdered_int64.l0 k ((x0.set (x9 : Int).toNat (rd x0 x10)).set (x10 : Int).toNat (rd x0 x9)) x1 (wrap64 (x9 + 1)) (wrap64 (x10 - 1))) else (none)) else (none))))) else (none)) else (none)) else (none)) else (none)) else (if x9 > x10 then (some (x9, x0)) else (if 0 ≤ x10 then (if x10 < (x0.length : Int) then (if 0 ≤ x9 then (if x9 < (x0.length : Int) then (slices_partitionEqualOrdered_int64.l0 k ((x0.set (x9 : Int).toNat (rd x0 x10)).set (x10 : Int).toNat (rd x0 x9)) x1 (wrap64 (x9 + 1)) (wrap64 (x10 - 1))) else (none)) else (none)) else (none)) else (none)))
def slices_partitionEqualOrdered_int64.l1 : Nat → List Int → Int → Int → Int → Option (Int × List Int)
 | 0, _, _, _, _ => none
 | k + 1, x0, x1, x9, x10 => if x9 ≤ x10 then (if 0 ≤ x1 then (if x1 < (x0.length : Int) then (if 0 ≤ x9 then (if x9 < (x0.length : Int) then ((cmp_Less_int64.f (rd x0 x1) (rd x0 x9)).bind fun t390 => (if t390 = true then (slices_partitionEqualOrdered_int64.j2 k x0 x1 x9 x10) else (slices_partitionEqualOrdered_int64.l1 k x0 x1 (wrap64 (x9 + 1)) x10))) else (none)) else (none)) else (none)) else (none)) else (slices_partitionEqualOrdered_int64.j2 k x0 x1 x9 x10)
end
def slices_partitionEqualOrdered_int64.f (k : Nat) (l0 : List Int) (a1 : Int) (a2 : Int) (a3 : Int) : Option (Int × List Int) := if 0 ≤ a3 then (if a3 < (l0.length : Int) then (if 0 ≤ a1 then (if a1 < (l0.length : Int) then (slices_partitionEqualOrdered_int64.l0 k ((l0.set (a1 : Int).toNat (rd l0 a3)).set (a3 : Int).toNat (rd l0 a1)) a1 (wrap64 (a1 + 1)) (wrap64 (a2 - 1))) else (none)) else (none)) else (none)) else (none)

def slices_partitionEqualOrdered_int64.T1 : Bool × List (List Nat × List Nat) := (true, [([], []), ([], []), ([], []), ([], []), ([], []), ([], []), ([4, 5], [4, 5]), ([6], [6]), ([], []), ([], []), ([8, 9], [8, 9]), ([10], [10]), ([0, 1, 0, 1, 4, 5, 6, 7, 11], [0, 1]), ([12, 7, 0, 1, 4, 5, 6, 7, 11], [7, 12]), ([2, 3, 0, 1, 2, 3, 4, 5, 6, 7, 8, 9, 10, 11, 12, 13], [2, 3]), ([14, 11, 13, 0, 1, 2, 3, 4, 5, 6, 7, 8, 9, 10, 11, 12, 13], [11, 14])])
def slices_partitionEqualOrdered_int64.B1 : List Nat := [0, 0, 0, 0, 0, 0, 48, 112, 0, 0, 768, 1792, 4083, 8179, 16383, 32767]
theorem slices_partitionEqualOrdered_int64.tab1 : rtab .any (opsOf Tryd.f89 1) = slices_partitionEqualOrdered_int64.T1 := by kernel_rfl
theorem slices_partitionEqualOrdered_int64.bits1 : waitsOk slices_partitionEqualOrdered_int64.T1.2 slices_partitionEqualOrdered_int64.B1 = true := by kernel_rfl
def slices_partitionEqualOrdered_int64.T3 : Bool × List (List Nat × List Nat) := (true, [([], []), ([], []), ([0, 1], [0, 1]), ([2], [2]), ([3], [3]), ([3], [3]), ([4, 5, 3], [3, 4, 5]), ([6, 3], [3, 6]), ([3], [3]), ([3], [3]), ([8, 9, 3], [3, 8, 9]), ([10, 3], [3, 10]), ([7, 11, 3, 3], [3, 7, 11]), ([12, 3], [3, 12]), ([3, 13], [3, 13])])
def slices_partitionEqualOrdered_int64.B3 : List Nat := [0, 0, 3, 7, 15, 15, 63, 127, 15, 15, 783, 1807, 4095, 8191, 16383]
theorem slices_partitionEqualOrdered_int64.tab3 : rtab .any (opsOf Tryd.f89 3) = slices_partitionEqualOrdered_int64.T3 := by kernel_rfl
theorem slices_partitionEqualOrdered_int64.bits3 : waitsOk slices_partitionEqualOrdered_int64.T3.2 slices_partitionEqualOrdered_int64.B3 = true := by kernel_rfl
def slices_partitionEqualOrdered_int64.T5 : Bool × List (List Nat × List Nat) := (true, [([], []), ([], []), ([0, 1], [0, 1]), ([2], [2]), ([3], [3]), ([3], [3]), ([4, 5, 3], [3, 4, 5]), ([6, 3], [3, 6]), ([3], [3]), ([3], [3]), ([8, 9, 3], [3, 8, 9]), ([10, 3], [3, 10]), ([7, 11, 3, 3], [3, 7, 11]), ([3, 12], [3, 12])])
def slices_partitionEqualOrdered_int64.B5 : List Nat := [0, 0, 3, 7, 15, 15, 63, 127, 15, 15, 783, 1807, 4095, 8191]
theorem slices_partitionEqualOrdered_int64.tab5 : rtab .any (opsOf Tryd.f89 5) = slices_partitionEqualOrdered_int64.T5 := by kernel_rfl
theorem slices_partitionEqualOrdered_int64.bits5 : waitsOk slices_partitionEqualOrdered_int64.T5.2 slices_partitionEqualOrdered_int64.B5 = true := by kernel_rfl
def slices_partitionEqualOrdered_int64.T8 : Bool × List (List Nat × List Nat) := (true, [([], []), ([], []), ([], []), ([], []), ([], []), ([], []), ([4, 5], [4, 5]), ([6], [6]), ([], []), ([], []), ([8, 9], [8, 9]), ([10], [10]), ([0, 1, 0, 1, 4, 5, 6, 7, 11], [0, 1]), ([12, 7, 0, 1, 4, 5, 6, 7, 11], [7, 12]), ([2, 3, 0, 1, 2, 3, 4, 5, 6, 7, 8, 9, 10, 11, 12, 13], [2, 3]), ([14, 11, 13, 0, 1, 2, 3, 4, 5, 6, 7, 8, 9, 10, 11, 12, 13], [11, 14])])
def slices_partitionEqualOrdered_int64.B8 : List Nat := [0, 0, 0, 0, 0, 0, 48, 112, 0, 0, 768, 1792, 4083, 8179, 16383, 32767]
theorem slices_partitionEqualOrdered_int64.tab8 : rtab .any (opsOf Tryd.f89 8) = slices_partitionEqualOrdered_int64.T8 := by kernel_rfl
theorem slices_partitionEqualOrdered_int64.bits8 : waitsOk slices_partitionEqualOrdered_int64.T8.2 slices_partitionEqualOrdered_int64.B8 = true := by kernel_rfl
set_option maxHeartbeats 8000000 in
set_option maxRecDepth 100000 in
theorem slices_partitionEqualOrdered_int64.calls (k : Nat) (P0_ : Nat → Prop) (u9000_ : Value) (l0 : List Int) (a1 : Int) (a2 : Int) (a3 : Int) (r1 : Int) (r2 : List Int) (w0 w : World) (hB : Below w0.heap.size w0 w) (ho0 : Kd.R (Kd.int .i64) 2 w w0.heap.size P0_ u9000_ l0) (h : slices_partitionEqualOrdered_int64.f k l0 a1 a2 a3 = some (r1, r2)) :
  Calls Tryd.prog 89 #[u9000_, .int .i64 a1, .int .i64 a2, .int .i64 a3] w fun e w' => e = .returned (.int .i64 r1) ∧ Kd.R (Kd.int .i64) 2 w' w0.heap.size (fun k_ => (P0_ k_ ∨ w.heap.size ≤ k_)) u9000_ r2 ∧ Below w0.heap.size w0 w' ∧ Kept w w' (fun k_ => P0_ k_) := by
 have HO0 := zA (show Kd.R (Kd.int .i64) 2 w w0.heap.size (fun k_ => (P0_ k_ ∨ w.heap.size ≤ k_)) u9000_ l0 from kA ho0 (fun k_ hk => (.inl hk)))
 have HK := zA (Kept.refl w (fun k_ => P0_ k_))
 have HW0 := zA hB.size
 have HB := zA hB
 clear hB
 have H := h
 unfold slices_partitionEqualOrdered_int64.f at H
 clear h
 by_cases c5 : 0 ≤ a3
 ·rw [if_pos c5] at H
  have c5b0 : decide (0 ≤ a3) = true := decide_eq_true c5
  clear c5
  by_cases c6 : a3 < (l0.length : Int)
  ·rw [if_pos c6] at H
   have c6b0 : decide (a3 < (l0.length : Int)) = true := decide_eq_true c6
   clear c6
   by_cases c7 : 0 ≤ a1
   ·rw [if_pos c7] at H
    have c7b0 : decide (0 ≤ a1) = true := decide_eq_true c7
    clear c7
    by_cases c8 : a1 < (l0.length : Int)
    ·rw [if_pos c8] at H
     have c8b0 : decide (a1 < (l0.length : Int)) = true := decide_eq_true c8
     clear c8
     obtain ⟨y386, hy386⟩ : ∃ y_ : List Int, y_ = (l0.set (a1 : Int).toNat (rd l0 a3)) := ⟨_, rfl⟩
     replace H : (slices_partitionEqualOrdered_int64.l0 k (y386.set (a3 : Int).toNat (rd l0 a1)) a1 (wrap64 (a1 + 1)) (wrap64 (a2 - 1))) = some (r1, r2) := zy hy386 H
     have Ny386 := zA hy386
     clear hy386
     obtain ⟨y387, hy387⟩ : ∃ y_ : List Int, y_ = (y386.set (a3 : Int).toNat (rd l0 a1)) := ⟨_, rfl⟩
     replace H : (slices_partitionEqualOrdered_int64.l0 k y387 a1 (wrap64 (a1 + 1)) (wrap64 (a2 - 1))) = some (r1, r2) := zy hy387 H
     have Ny387 := zA hy387
     clear hy387
     have H' := zA H
     clear H
     go_enter Tryd.func89, Tryd.ntmps89
     try go_wp2
     replace HO0 := zA (zH HO0.out)
     replace HK := zA (Kept.drew HK.out)
     replace HB := zA (zD HB.out)
     obtain ⟨Ao12, co12, eo12⟩ := kM HO0.out
     (first | subst eo12 | (injection eo12 with f1_ f2_ f3_; have f4_ := f1_.symm; have f5_ := f3_.symm; clear f1_ f2_ f3_; subst f4_; subst f5_))
     have p384 : 0 ≤ (a3 : Int) := zd
     have q384 : a3 < (l0.length : Int) := zd
     obtain ⟨ad384, e384, hx384_0⟩ := Kd.at_int (kB HO0.out).2.2 a3 p384 q384
     cases e384
     replace p384 := eq_true p384
     replace q384 := eq_true q384
     have p385 : 0 ≤ (a1 : Int) := zd
     have q385 : a1 < (l0.length : Int) := zd
     obtain ⟨ad385, e385, hx385_0⟩ := Kd.at_int (kB HO0.out).2.2 a1 p385 q385
     obtain rfl : ad384 = ad385 := (by injection e385)
     replace p385 := eq_true p385
     replace q385 := eq_true q385
     have p9 : 0 ≤ (a1 : Int) := zd
     have q9 : (a1 : Int) < ((l0.length : Int) : Int) := zd
     obtain ⟨go9, co9, eo9, gb9, gl9, cl9, HG9⟩ := Kd.R_form HO0.out (by omega)
     (first | cases eo9 | (injection eo9 with ea_ en_ ec_; (first | subst ea_ | (injection ea_ with ea_; subst ea_)); subst ec_; clear en_))
     have GB9 := zA gb9
     have GG9 := zA HG9
     clear gb9 gl9 HG9
     have HMgo9 := zA (show (P0_ go9 ∨ w.heap.size ≤ go9) from (HO0.out.1 _ rfl))
     (first | simp only [add_plain] at hx384_0 | skip)
     (first | simp only [add_plain] at hx385_0 | skip)
     obtain ⟨hx9_0, hf9_0⟩ := Kd.R_celln 0 HO0.out (a1 : Int) p9 q9
     replace p9 := eq_true p9
     replace q9 := eq_true q9
     have HP13 := Kd.R_putn HO0.out (a1 : Int) (rd l0 a3)
     rw [← Ny386.out] at HP13
     have HQ13 := zA HP13
     clear HP13
     have p10 : 0 ≤ (a3 : Int) := zd
     have q10 : (a3 : Int) < ((l0.length : Int) : Int) := zd
     obtain ⟨hx10_0, hf10_0⟩ := Kd.R_celln 0 HQ13.out (a3 : Int) p10 q10
     replace p10 := eq_true p10
     replace q10 := eq_true q10
     have HP14 := Kd.R_putn HQ13.out (a3 : Int) (rd l0 a1)
     rw [← Ny387.out] at HP14
     have HQ14 := zA HP14
     clear HP14
     refine start_ (n := 16) (S := fun w' => w'.cell? ⟨go9, (a3).toNat, none⟩ = some (.int .i64 (rd l0 a3)) ∧ w'.cell? ⟨go9, (a1).toNat, none⟩ = some (.int .i64 (rd l0 a1))) (ds := [13, 15]) #[false, false, false, false, false, false, false, false, false, false, false, false, false, false, false, false] (by kernel_rfl) rfl rfl ⟨hx384_0, hx385_0⟩ (fun hHeld => ?_); refine with_tabW slices_partitionEqualOrdered_int64.tab1 slices_partitionEqualOrdered_int64.bits1 (fun HT_ HW_ => ?_)
     generalize w.drew = w11 at HO0 HK HB GG9 HQ13 HQ14 hf10_0 hf9_0 hx10_0 hx384_0 hx385_0 hx9_0 hHeld ⊢
     refine zp 0 (some 11) #[true, false, false, false, false, false, false, false, false, false, false, false, false, false, false, false] HT_.out ?_
     refine zp 1 (some 12) #[true, true, false, false, false, false, false, false, false, false, false, false, false, false, false, false] HT_.out ?_
     refine zp 2 (some 13) #[true, true, true, false, false, false, false, false, false, false, false, false, false, false, false, false] HT_.out ?_
     refine zp 3 (some 14) #[true, true, true, true, false, false, false, false, false, false, false, false, false, false, false, false] HT_.out ?_
     refine zp 4 (some 15) #[true, true, true, true, true, false, false, false, false, false, false, false, false, false, false, false] HT_.out ?_
     refine zp 5 (some 16) #[true, true, true, true, true, true, false, false, false, false, false, false, false, false, false, false] HT_.out ?_
     refine zp 6 (some 17) #[true, true, true, true, true, true, true, false, false, false, false, false, false, false, false, false] HT_.out ?_
     refine zp 8 (some 19) #[true, true, true, true, true, true, true, false, true, false, false, false, false, false, false, false] HT_.out ?_
     refine zp 9 (some 20) #[true, true, true, true, true, true, true, false, true, true, false, false, false, false, false, false] HT_.out ?_
     refine zp 10 (some 21) #[true, true, true, true, true, true, true, false, true, true, true, false, false, false, false, false] HT_.out ?_
     refine zc 7 (some 18) #[true, true, true, true, true, true, true, true, true, true, true, false, false, false, false, false] HT_.out HW_.out hHeld ?_
     refine zc 11 (some 22) #[true, true, true, true, true, true, true, true, true, true, true, true, false, false, false, false] HT_.out HW_.out hHeld ?_
     refine zp 12 (some 23) #[true, true, true, true, true, true, true, true, true, true, true, true, true, false, false, false] HT_.out ?_
     refine last_ (i := 13) (N := none) #[true, true, true, true, true, true, true, true, true, true, true, true, true, true, false, false] rfl rfl (one_of HT_.out (by kernel_rfl)) (by decide) (fun K hK => ?_)
     refine skip_ (w1 := ?_) (by rfl) rfl ?_ ?_
     rotate_left
     ·go_simp
      rfl
     refine hK.out _ _ ?_
     clear hK K
     refine zp 14 (some 24) #[true, true, true, true, true, true, true, true, true, true, true, true, true, true, true, false] HT_.out ?_
     refine last_ (i := 15) (N := none) #[true, true, true, true, true, true, true, true, true, true, true, true, true, true, true, true] rfl rfl (one_of HT_.out (by kernel_rfl)) (by decide) (fun K hK => ?_)
     refine skip_ (w1 := ?_) (by rfl) rfl ?_ ?_
     rotate_left
     ·go_simp
      rfl
     refine hK.out _ _ ?_
     clear hK K
     refine done_ (done_of HT_.out (by kernel_rfl)) ?_
     try go_wp2
     go_loopg [9, 10] k (fun kq v9 v10 w' => ∃ (x0_1 : List Int) (x9_1 : Int) (x10_1 : Int), v9 = .int .i64 x9_1 ∧ v10 = .int .i64 x10_1 ∧ Aside0 (slices_partitionEqualOrdered_int64.l0 kq x0_1 a1 x9_1 x10_1 = some (r1, r2)) ∧ Aside0 (kq ≤ k) ∧ Aside0 (Kd.R (Kd.int .i64) 2 w' w0.heap.size (fun k_ => (P0_ k_ ∨ w.heap.size ≤ k_)) (.slice (some ⟨go9, 0, none⟩) l0.length co12) x0_1) ∧ Aside0 (Kept w w' (fun k_ => P0_ k_)) ∧ Aside0 (Below w0.heap.size w0 w'))
     case atStart => exact ⟨(y387), (wrap64 (a1 + 1)), (wrap64 (a2 - 1)), zs, zs, H', ⟨Nat.le_refl _⟩, ⟨zP HQ14.out⟩, ⟨by repeat (first | (with_reducible first | exact HK.out | apply Kept.alloc | apply Kept.drewN | apply Kept.drew | refine Kept.setCell ?_ HMgo9.out _ | refine Kept.setCell ?_ HMgo9.out _) | exact HK.out)⟩, ⟨zV HB.out GB9.out GB9.out⟩⟩
     case round =>
      clear H'
      try clear hx1
      try clear hx3
      try clear c5
      try clear c6
      try clear c7
      try clear c8
      try clear hx9
      try clear hf9
      try clear hx10
      try clear hf10
      try clear hx10_0
      try clear hx384_0
      try clear hx385_0
      try clear hx9_0
      obtain ⟨x0_1, x9_1, x10_1, rfl, rfl, HA, HK1, HO_0, HK, HB⟩ := hrel
      have hl0_1 := (kB HO_0.out).1
      rw [hl0_1] at HO_0
      (try simp only [hl0_1])
      cases gk with
      | zero => exact absurd HA.out (by simp [slices_partitionEqualOrdered_int64.l0])
      | succ k1 =>
       have H := HA.out
       clear HA
       simp only [slices_partitionEqualOrdered_int64.l0] at H
       have HC15 := zA H
       clear H
       go_upto_block 2 with (fail)
       go_cut [9] (fun v9 wc => ∃ (kq : Nat) (x9_14 : Int), v9 = .int .i64 x9_14 ∧ Aside0 (slices_partitionEqualOrdered_int64.j2 kq x0_1 a1 x9_14 x10_1 = some (r1, r2)) ∧ Aside0 (kq ≤ k1) ∧ Aside0 (Kd.R (Kd.int .i64) 2 wc w0.heap.size (fun k_ => (P0_ k_ ∨ w.heap.size ≤ k_)) (.slice (some ⟨go9, 0, none⟩) x0_1.length co12) x0_1) ∧ Aside0 (Kept w wc (fun k_ => P0_ k_)) ∧ Aside0 (Below w0.heap.size w0 wc))
       case first =>
        have H := HC15.out
        clear HC15
        have H' := zA H
        clear H
        go_wp2
        go_loopg [9] k1 (fun kq v9 w' => ∃ (x9_2 : Int), v9 = .int .i64 x9_2 ∧ Aside0 (slices_partitionEqualOrdered_int64.l1 kq x0_1 a1 x9_2 x10_1 = some (r1, r2)) ∧ Aside0 (kq ≤ k1) ∧ Aside0 (Kd.R (Kd.int .i64) 2 w' w0.heap.size (fun k_ => (P0_ k_ ∨ w.heap.size ≤ k_)) (.slice (some ⟨go9, 0, none⟩) x0_1.length co12) x0_1) ∧ Aside0 (Kept w w' (fun k_ => P0_ k_)) ∧ Aside0 (Below w0.heap.size w0 w'))
        case atStart => exact ⟨(x9_1), zs, H', ⟨Nat.le_refl _⟩, ⟨by (try simp only [hl0_1]); (with_reducible repeat (first | apply zF | apply zG | apply zH)); exact HO_0.out⟩, ⟨by repeat (first | (with_reducible first | exact HK.out | apply Kept.alloc | apply Kept.drewN | apply Kept.drew) | exact HK.out)⟩, ⟨zQ HB.out⟩⟩
        case round =>
         clear H'
         try clear hx1
         try clear hx3
         try clear c5
         try clear c6
         try clear c7
         try clear c8
         try clear hx9
         try clear hf9
         try clear hx10
         try clear hf10
         try clear hx10_0
         try clear hx384_0
         try clear hx385_0
         try clear hx9_0
         obtain ⟨x9_2, rfl, HA, HK2, HO_0, HK, HB⟩ := hrel
         cases gk with
         | zero => exact absurd HA.out (by simp [slices_partitionEqualOrdered_int64.l1])
         | succ k2 =>
          have H := HA.out
          clear HA
          simp only [slices_partitionEqualOrdered_int64.l1] at H
          by_cases c16 : x9_2 ≤ x10_1
          ·rw [if_pos c16] at H
           have c16b0 : decide (x9_2 ≤ x10_1) = true := decide_eq_true c16
           clear c16
           (first | rw [c16b0] | (simp only [i64_w, i32_w]; rw [c16b0]) | skip)
           by_cases c17 : 0 ≤ a1
           ·rw [if_pos c17] at H
            have c17b0 : decide (0 ≤ a1) = true := decide_eq_true c17
            clear c17
            by_cases c18 : a1 < (x0_1.length : Int)
            ·rw [if_pos c18] at H
             have c18b0 : decide (a1 < (x0_1.length : Int)) = true := decide_eq_true c18
             (try (have c18b0h0_ := c18b0; rw [hl0_1] at c18b0h0_))
             clear c18
             by_cases c19 : 0 ≤ x9_2
             ·rw [if_pos c19] at H
              have c19b0 : decide (0 ≤ x9_2) = true := decide_eq_true c19
              clear c19
              by_cases c20 : x9_2 < (x0_1.length : Int)
              ·rw [if_pos c20] at H
               have c20b0 : decide (x9_2 < (x0_1.length : Int)) = true := decide_eq_true c20
               (try (have c20b0h0_ := c20b0; rw [hl0_1] at c20b0h0_))
               clear c20
               obtain ⟨t390, A21, H⟩ := zb H
               try dsimp only at H
               by_cases c22 : t390 = true
               ·subst c22
                rw [if_pos rfl] at H
                have H' := zA H
                clear H
                try go_wp2
                replace HO_0 := zA (zH HO_0.out)
                replace HK := zA (Kept.drew HK.out)
                replace HB := zA (zD HB.out)
                have p388 : 0 ≤ (a1 : Int) := zd
                have q388 : a1 < (x0_1.length : Int) := zd
                obtain ⟨ad388, e388, hx388_0⟩ := Kd.at_int (kB HO_0.out).2.2 a1 p388 q388
                obtain rfl : (⟨go9, 0, none⟩ : Addr) = ad388 := (by injection e388)
                (first | simp only [add_plain] at hx388_0 | simp only [add_at] at hx388_0 | simp only [Addr.add, Nat.zero_add] at hx388_0 | skip)
                replace p388 := eq_true p388
                replace q388 := eq_true q388
                have p389 : 0 ≤ (x9_2 : Int) := zd
                have q389 : x9_2 < (x0_1.length : Int) := zd
                obtain ⟨ad389, e389, hx389_0⟩ := Kd.at_int (kB HO_0.out).2.2 x9_2 p389 q389
                obtain rfl : (⟨go9, 0, none⟩ : Addr) = ad389 := (by injection e389)
                (first | simp only [add_plain] at hx389_0 | simp only [add_at] at hx389_0 | simp only [Addr.add, Nat.zero_add] at hx389_0 | skip)
                replace p389 := eq_true p389
                replace q389 := eq_true q389
                refine start_ (n := 15) (S := fun w' => w'.cell? ⟨go9, (a1).toNat, none⟩ = some (.int .i64 (rd x0_1 a1)) ∧ w'.cell? ⟨go9, (x9_2).toNat, none⟩ = some (.int .i64 (rd x0_1 x9_2))) (ds := []) #[false, false, false, false, false, false, false, false, false, false, false, false, false, false, false] (by kernel_rfl) rfl rfl ⟨hx388_0, hx389_0⟩ (fun hHeld => ?_); refine with_tabW slices_partitionEqualOrdered_int64.tab3 slices_partitionEqualOrdered_int64.bits3 (fun HT_ HW_ => ?_)
                generalize wr.drew = w23 at HO_0 HK HB hx388_0 hx389_0 hHeld ⊢
                refine zp 0 (some 29) #[true, false, false, false, false, false, false, false, false, false, false, false, false, false, false] HT_.out ?_
                refine zp 1 (some 30) #[true, true, false, false, false, false, false, false, false, false, false, false, false, false, false] HT_.out ?_
                refine zp 2 (some 31) #[true, true, true, false, false, false, false, false, false, false, false, false, false, false, false] HT_.out ?_
                refine zp 3 (some 32) #[true, true, true, true, false, false, false, false, false, false, false, false, false, false, false] HT_.out ?_
                refine zp 4 (some 33) #[true, true, true, true, true, false, false, false, false, false, false, false, false, false, false] HT_.out ?_
                refine zp 5 (some 34) #[true, true, true, true, true, true, false, false, false, false, false, false, false, false, false] HT_.out ?_
                refine zp 6 (some 35) #[true, true, true, true, true, true, true, false, false, false, false, false, false, false, false] HT_.out ?_
                refine zp 8 (some 37) #[true, true, true, true, true, true, true, false, true, false, false, false, false, false, false] HT_.out ?_
                refine zp 9 (some 38) #[true, true, true, true, true, true, true, false, true, true, false, false, false, false, false] HT_.out ?_
                refine zp 10 (some 39) #[true, true, true, true, true, true, true, false, true, true, true, false, false, false, false] HT_.out ?_
                refine zc 7 (some 36) #[true, true, true, true, true, true, true, true, true, true, true, false, false, false, false] HT_.out HW_.out hHeld ?_
                refine zc 11 (some 40) #[true, true, true, true, true, true, true, true, true, true, true, true, false, false, false] HT_.out HW_.out hHeld ?_
                refine one_ (i := 12) (N := some 41) #[true, true, true, true, true, true, true, true, true, true, true, true, true, false, false] rfl rfl (one_of HT_.out (by kernel_rfl)) (by decide) (fun K hK => ?_)
                refine goes_ Tryd.func88 (by kernel_rfl) rfl #[.int .i64 (rd x0_1 a1), .int .i64 (rd x0_1 x9_2)] (by rfl) rfl rfl zg ?_
                with_reducible refine (cmp_Less_int64.calls (rd x0_1 a1) (rd x0_1 x9_2) true _ A21.out).mono ?_
                rintro e w' ⟨rfl, ⟨nd, rfl⟩⟩
                refine ⟨_, rfl, ?_⟩
                refine hK.out _ _ ⟨hHeld.1, hHeld.2⟩ (fun hHeld => ?_)
                clear hK K
                refine norm_ (a' := ?_) ?_ ?_
                rotate_left
                ·show Act.put _ (some 41) _ = _
                 simp only [Act.put, zL, zM, zN, i64_w, i32_w]
                 rfl
                refine zp 13 (some 42) #[true, true, true, true, true, true, true, true, true, true, true, true, true, true, false] HT_.out ?_
                refine zp 14 (some 43) #[true, true, true, true, true, true, true, true, true, true, true, true, true, true, true] HT_.out ?_
                refine done_ (done_of HT_.out (by kernel_rfl)) ?_
                try go_wp2
                go_meet
                case rel => exact ⟨_, (x9_2), zs, H', ⟨by have := HK1.out; have := HK2.out; first | omega | exact Nat.le_refl _⟩, ⟨by (try simp only [hl0_1]); (with_reducible repeat (first | apply zF | apply zG | apply zH)); exact HO_0.out⟩, ⟨by repeat (first | (with_reducible first | exact HK.out | apply Kept.alloc | apply Kept.drewN | apply Kept.drew) | exact HK.out)⟩, ⟨zQ HB.out⟩⟩
               replace c22 := Bool.eq_false_iff.mpr c22
               subst c22
               rw [if_neg (show ¬ (false = true) by decide)] at H
               have H' := zA H
               clear H
               try go_wp2
               replace HO_0 := zA (zH HO_0.out)
               replace HK := zA (Kept.drew HK.out)
               replace HB := zA (zD HB.out)
               have p388 : 0 ≤ (a1 : Int) := zd
               have q388 : a1 < (x0_1.length : Int) := zd
               obtain ⟨ad388, e388, hx388_0⟩ := Kd.at_int (kB HO_0.out).2.2 a1 p388 q388
               obtain rfl : (⟨go9, 0, none⟩ : Addr) = ad388 := (by injection e388)
               (first | simp only [add_plain] at hx388_0 | simp only [add_at] at hx388_0 | simp only [Addr.add, Nat.zero_add] at hx388_0 | skip)
               replace p388 := eq_true p388
               replace q388 := eq_true q388
               have p389 : 0 ≤ (x9_2 : Int) := zd
               have q389 : x9_2 < (x0_1.length : Int) := zd
               obtain ⟨ad389, e389, hx389_0⟩ := Kd.at_int (kB HO_0.out).2.2 x9_2 p389 q389
               obtain rfl : (⟨go9, 0, none⟩ : Addr) = ad389 := (by injection e389)
               (first | simp only [add_plain] at hx389_0 | simp only [add_at] at hx389_0 | simp only [Addr.add, Nat.zero_add] at hx389_0 | skip)
               replace p389 := eq_true p389
               replace q389 := eq_true q389
               refine start_ (n := 15) (S := fun w' => w'.cell? ⟨go9, (a1).toNat, none⟩ = some (.int .i64 (rd x0_1 a1)) ∧ w'.cell? ⟨go9, (x9_2).toNat, none⟩ = some (.int .i64 (rd x0_1 x9_2))) (ds := []) #[false, false, false, false, false, false, false, false, false, false, false, false, false, false, false] (by kernel_rfl) rfl rfl ⟨hx388_0, hx389_0⟩ (fun hHeld => ?_); refine with_tabW slices_partitionEqualOrdered_int64.tab3 slices_partitionEqualOrdered_int64.bits3 (fun HT_ HW_ => ?_)
               generalize wr.drew = w24 at HO_0 HK HB hx388_0 hx389_0 hHeld ⊢
               refine zp 0 (some 29) #[true, false, false, false, false, false, false, false, false, false, false, false, false, false, false] HT_.out ?_
               refine zp 1 (some 30) #[true, true, false, false, false, false, false, false, false, false, false, false, false, false, false] HT_.out ?_
               refine zp 2 (some 31) #[true, true, true, false, false, false, false, false, false, false, false, false, false, false, false] HT_.out ?_
               refine zp 3 (some 32) #[true, true, true, true, false, false, false, false, false, false, false, false, false, false, false] HT_.out ?_
               refine zp 4 (some 33) #[true, true, true, true, true, false, false, false, false, false, false, false, false, false, false] HT_.out ?_
               refine zp 5 (some 34) #[true, true, true, true, true, true, false, false, false, false, false, false, false, false, false] HT_.out ?_
               refine zp 6 (some 35) #[true, true, true, true, true, true, true, false, false, false, false, false, false, false, false] HT_.out ?_
               refine zp 8 (some 37) #[true, true, true, true, true, true, true, false, true, false, false, false, false, false, false] HT_.out ?_
               refine zp 9 (some 38) #[true, true, true, true, true, true, true, false, true, true, false, false, false, false, false] HT_.out ?_
               refine zp 10 (some 39) #[true, true, true, true, true, true, true, false, true, true, true, false, false, false, false] HT_.out ?_
               refine zc 7 (some 36) #[true, true, true, true, true, true, true, true, true, true, true, false, false, false, false] HT_.out HW_.out hHeld ?_
               refine zc 11 (some 40) #[true, true, true, true, true, true, true, true, true, true, true, true, false, false, false] HT_.out HW_.out hHeld ?_
               refine one_ (i := 12) (N := some 41) #[true, true, true, true, true, true, true, true, true, true, true, true, true, false, false] rfl rfl (one_of HT_.out (by kernel_rfl)) (by decide) (fun K hK => ?_)
               refine goes_ Tryd.func88 (by kernel_rfl) rfl #[.int .i64 (rd x0_1 a1), .int .i64 (rd x0_1 x9_2)] (by rfl) rfl rfl zg ?_
               with_reducible refine (cmp_Less_int64.calls (rd x0_1 a1) (rd x0_1 x9_2) false _ A21.out).mono ?_
               rintro e w' ⟨rfl, ⟨nd, rfl⟩⟩
               refine ⟨_, rfl, ?_⟩
               refine hK.out _ _ ⟨hHeld.1, hHeld.2⟩ (fun hHeld => ?_)
               clear hK K
               refine norm_ (a' := ?_) ?_ ?_
               rotate_left
               ·show Act.put _ (some 41) _ = _
                simp only [Act.put, zL, zM, zN, i64_w, i32_w]
                rfl
               refine zp 13 (some 42) #[true, true, true, true, true, true, true, true, true, true, true, true, true, true, false] HT_.out ?_
               refine zp 14 (some 43) #[true, true, true, true, true, true, true, true, true, true, true, true, true, true, true] HT_.out ?_
               refine done_ (done_of HT_.out (by kernel_rfl)) ?_
               try go_wp2
               go_roundg k2
               case measure => have := HK1.out; have := HK2.out; omega
               case rel => exact ⟨(wrap64 (x9_2 + 1)), zs, H', ⟨by have := HK1.out; have := HK2.out; omega⟩, ⟨by (try simp only [hl0_1]); (with_reducible repeat (first | apply zF | apply zG | apply zH)); exact HO_0.out⟩, ⟨by repeat (first | (with_reducible first | exact HK.out | apply Kept.alloc | apply Kept.drewN | apply Kept.drew) | exact HK.out)⟩, ⟨zQ HB.out⟩⟩
              rw [if_neg c20] at H
              exact absurd H (by simp)
             rw [if_neg c19] at H
             exact absurd H (by simp)
            rw [if_neg c18] at H
            exact absurd H (by simp)
           rw [if_neg c17] at H
           exact absurd H (by simp)
          rw [if_neg c16] at H
          have c16b0 : decide (x9_2 ≤ x10_1) = false := decide_eq_false c16
          clear c16
          (first | rw [c16b0] | (simp only [i64_w, i32_w]; rw [c16b0]) | skip)
          have H' := zA H
          clear H
          try go_wp2
          replace HO_0 := zA (zH HO_0.out)
          replace HK := zA (Kept.drew HK.out)
          replace HB := zA (zD HB.out)
          refine start_ (n := 15) (S := fun w' => True) (ds := []) #[false, false, false, false, false, false, false, false, false, false, false, false, false, false, false] (by kernel_rfl) rfl rfl trivial (fun hHeld => ?_); refine with_tabW slices_partitionEqualOrdered_int64.tab3 slices_partitionEqualOrdered_int64.bits3 (fun HT_ HW_ => ?_)
          generalize wr.drew = w25 at HO_0 HK HB hHeld ⊢
          refine zp 0 (some 29) #[true, false, false, false, false, false, false, false, false, false, false, false, false, false, false] HT_.out ?_
          refine zp 1 (some 30) #[true, true, false, false, false, false, false, false, false, false, false, false, false, false, false] HT_.out ?_
          refine zp 2 (some 31) #[true, true, true, false, false, false, false, false, false, false, false, false, false, false, false] HT_.out ?_
          refine zp 3 (some 32) #[true, true, true, true, false, false, false, false, false, false, false, false, false, false, false] HT_.out ?_
          refine zu 4 (some 33) #[true, true, true, true, true, false, false, false, false, false, false, false, false, false, false] HT_.out ?_
          refine zu 5 (some 34) #[true, true, true, true, true, true, false, false, false, false, false, false, false, false, false] HT_.out ?_
          refine zu 6 (some 35) #[true, true, true, true, true, true, true, false, false, false, false, false, false, false, false] HT_.out ?_
          refine zu 7 (some 36) #[true, true, true, true, true, true, true, true, false, false, false, false, false, false, false] HT_.out ?_
          refine zu 8 (some 37) #[true, true, true, true, true, true, true, true, true, false, false, false, false, false, false] HT_.out ?_
          refine zu 9 (some 38) #[true, true, true, true, true, true, true, true, true, true, false, false, false, false, false] HT_.out ?_
          refine zu 10 (some 39) #[true, true, true, true, true, true, true, true, true, true, true, false, false, false, false] HT_.out ?_
          refine zu 11 (some 40) #[true, true, true, true, true, true, true, true, true, true, true, true, false, false, false] HT_.out ?_
          refine zu 12 (some 41) #[true, true, true, true, true, true, true, true, true, true, true, true, true, false, false] HT_.out ?_
          refine zu 13 (some 42) #[true, true, true, true, true, true, true, true, true, true, true, true, true, true, false] HT_.out ?_
          refine zp 14 (some 43) #[true, true, true, true, true, true, true, true, true, true, true, true, true, true, true] HT_.out ?_
          refine done_ (done_of HT_.out (by kernel_rfl)) ?_
          try go_wp2
          go_meet
          case rel => exact ⟨_, (x9_2), zs, H', ⟨by have := HK1.out; have := HK2.out; first | omega | exact Nat.le_refl _⟩, ⟨by (try simp only [hl0_1]); (with_reducible repeat (first | apply zF | apply zG | apply zH)); exact HO_0.out⟩, ⟨by repeat (first | (with_reducible first | exact HK.out | apply Kept.alloc | apply Kept.drewN | apply Kept.drew) | exact HK.out)⟩, ⟨zQ HB.out⟩⟩
       case rest =>
        clear HC15
        try clear c1
        try clear hx1
        try clear c2
        try clear hx3
        try clear c5
        try clear c6
        try clear c7
        try clear c8
        try clear hx9
        try clear hf9
        try clear hx10
        try clear hf10
        try clear c16
        try clear c17
        try clear c18
        try clear c19
        try clear c20
        try clear c22
        try clear hx10_0
        try clear hx384_0
        try clear hx385_0
        try clear hx388_0
        try clear hx389_0
        try clear hx9_0
        obtain ⟨kq, x9_14, rfl, HA, HJ14, HO_0, HK, HB⟩ := hcut
        cases kq with
        | zero => exact absurd HA.out (by simp [slices_partitionEqualOrdered_int64.j2])
        | succ kj14 =>
         have H := HA.out
         clear HA
         simp only [slices_partitionEqualOrdered_int64.j2] at H
         have H' := zA H
         clear H
         go_wp2
         go_loopg [10] kj14 (fun kq v10 w' => ∃ (x10_3 : Int), v10 = .int .i64 x10_3 ∧ Aside0 (slices_partitionEqualOrdered_int64.l2 kq x0_1 a1 x9_14 x10_3 = some (r1, r2)) ∧ Aside0 (kq ≤ kj14) ∧ Aside0 (Kd.R (Kd.int .i64) 2 w' w0.heap.size (fun k_ => (P0_ k_ ∨ w.heap.size ≤ k_)) (.slice (some ⟨go9, 0, none⟩) x0_1.length co12) x0_1) ∧ Aside0 (Kept w w' (fun k_ => P0_ k_)) ∧ Aside0 (Below w0.heap.size w0 w'))
         case atStart => exact ⟨(x10_1), zs, H', ⟨Nat.le_refl _⟩, ⟨by (try simp only [hl0_1]); (with_reducible repeat (first | apply zF | apply zG | apply zH)); exact HO_0.out⟩, ⟨by repeat (first | (with_reducible first | exact HK.out | apply Kept.alloc | apply Kept.drewN | apply Kept.drew) | exact HK.out)⟩, ⟨zQ HB.out⟩⟩
         case round =>
          clear H'
          try clear c1
          try clear hx1
          try clear c2
          try clear hx3
          try clear c5
          try clear c6
          try clear c7
          try clear c8
          try clear hx9
          try clear hf9
          try clear hx10
          try clear hf10
          try clear c16
          try clear c17
          try clear c18
          try clear c19
          try clear c20
          try clear c22
          try clear hx10_0
          try clear hx384_0
          try clear hx385_0
          try clear hx388_0
          try clear hx389_0
          try clear hx9_0
          obtain ⟨x10_3, rfl, HA, HK3, HO_0, HK, HB⟩ := hrel
          cases gk with
          | zero => exact absurd HA.out (by simp [slices_partitionEqualOrdered_int64.l2])
          | succ k3 =>
           have H := HA.out
           clear HA
           simp only [slices_partitionEqualOrdered_int64.l2] at H
           by_cases c26 : x9_14 ≤ x10_3
           ·rw [if_pos c26] at H
            have c26b0 : decide (x9_14 ≤ x10_3) = true := decide_eq_true c26
            clear c26
            by_cases c27 : 0 ≤ a1
            ·rw [if_pos c27] at H
             have c27b0 : decide (0 ≤ a1) = true := decide_eq_true c27
             clear c27
             by_cases c28 : a1 < (x0_1.length : Int)
             ·rw [if_pos c28] at H
              have c28b0 : decide (a1 < (x0_1.length : Int)) = true := decide_eq_true c28
              (try (have c28b0h0_ := c28b0; rw [hl0_1] at c28b0h0_))
              clear c28
              by_cases c29 : 0 ≤ x10_3
              ·rw [if_pos c29] at H
               have c29b0 : decide (0 ≤ x10_3) = true := decide_eq_true c29
               clear c29
               by_cases c30 : x10_3 < (x0_1.length : Int)
               ·rw [if_pos c30] at H
                have c30b0 : decide (x10_3 < (x0_1.length : Int)) = true := decide_eq_true c30
                (try (have c30b0h0_ := c30b0; rw [hl0_1] at c30b0h0_))
                clear c30
                obtain ⟨t393, A31, H⟩ := zb H
                try dsimp only at H
                by_cases c32 : t393 = true
                ·subst c32
                 rw [if_pos rfl] at H
                 have H' := zA H
                 clear H
                 try go_wp2
                 replace HO_0 := zA (zH HO_0.out)
                 replace HK := zA (Kept.drew HK.out)
                 replace HB := zA (zD HB.out)
                 have p391 : 0 ≤ (a1 : Int) := zd
                 have q391 : a1 < (x0_1.length : Int) := zd
                 obtain ⟨ad391, e391, hx391_0⟩ := Kd.at_int (kB HO_0.out).2.2 a1 p391 q391
                 obtain rfl : (⟨go9, 0, none⟩ : Addr) = ad391 := (by injection e391)
                 (first | simp only [add_plain] at hx391_0 | simp only [add_at] at hx391_0 | simp only [Addr.add, Nat.zero_add] at hx391_0 | skip)
                 replace p391 := eq_true p391
                 replace q391 := eq_true q391
                 have p392 : 0 ≤ (x10_3 : Int) := zd
                 have q392 : x10_3 < (x0_1.length : Int) := zd
                 obtain ⟨ad392, e392, hx392_0⟩ := Kd.at_int (kB HO_0.out).2.2 x10_3 p392 q392
                 obtain rfl : (⟨go9, 0, none⟩ : Addr) = ad392 := (by injection e392)
                 (first | simp only [add_plain] at hx392_0 | simp only [add_at] at hx392_0 | simp only [Addr.add, Nat.zero_add] at hx392_0 | skip)
                 replace p392 := eq_true p392
                 replace q392 := eq_true q392
                 refine start_ (n := 14) (S := fun w' => w'.cell? ⟨go9, (a1).toNat, none⟩ = some (.int .i64 (rd x0_1 a1)) ∧ w'.cell? ⟨go9, (x10_3).toNat, none⟩ = some (.int .i64 (rd x0_1 x10_3))) (ds := []) #[false, false, false, false, false, false, false, false, false, false, false, false, false, false] (by kernel_rfl) rfl rfl ⟨hx391_0, hx392_0⟩ (fun hHeld => ?_); refine with_tabW slices_partitionEqualOrdered_int64.tab5 slices_partitionEqualOrdered_int64.bits5 (fun HT_ HW_ => ?_)
                 generalize wr.drew = w33 at HO_0 HK HB hx391_0 hx392_0 hHeld ⊢
                 refine zp 0 (some 46) #[true, false, false, false, false, false, false, false, false, false, false, false, false, false] HT_.out ?_
                 refine zp 1 (some 47) #[true, true, false, false, false, false, false, false, false, false, false, false, false, false] HT_.out ?_
                 refine zp 2 (some 48) #[true, true, true, false, false, false, false, false, false, false, false, false, false, false] HT_.out ?_
                 refine zp 3 (some 49) #[true, true, true, true, false, false, false, false, false, false, false, false, false, false] HT_.out ?_
                 refine zp 4 (some 50) #[true, true, true, true, true, false, false, false, false, false, false, false, false, false] HT_.out ?_
                 refine zp 5 (some 51) #[true, true, true, true, true, true, false, false, false, false, false, false, false, false] HT_.out ?_
                 refine zp 6 (some 52) #[true, true, true, true, true, true, true, false, false, false, false, false, false, false] HT_.out ?_
                 refine zp 8 (some 54) #[true, true, true, true, true, true, true, false, true, false, false, false, false, false] HT_.out ?_
                 refine zp 9 (some 55) #[true, true, true, true, true, true, true, false, true, true, false, false, false, false] HT_.out ?_
                 refine zp 10 (some 56) #[true, true, true, true, true, true, true, false, true, true, true, false, false, false] HT_.out ?_
                 refine zc 7 (some 53) #[true, true, true, true, true, true, true, true, true, true, true, false, false, false] HT_.out HW_.out hHeld ?_
                 refine zc 11 (some 57) #[true, true, true, true, true, true, true, true, true, true, true, true, false, false] HT_.out HW_.out hHeld ?_
                 refine one_ (i := 12) (N := some 58) #[true, true, true, true, true, true, true, true, true, true, true, true, true, false] rfl rfl (one_of HT_.out (by kernel_rfl)) (by decide) (fun K hK => ?_)
                 refine goes_ Tryd.func88 (by kernel_rfl) rfl #[.int .i64 (rd x0_1 a1), .int .i64 (rd x0_1 x10_3)] (by rfl) rfl rfl zg ?_
                 with_reducible refine (cmp_Less_int64.calls (rd x0_1 a1) (rd x0_1 x10_3) true _ A31.out).mono ?_
                 rintro e w' ⟨rfl, ⟨nd, rfl⟩⟩
                 refine ⟨_, rfl, ?_⟩
                 refine hK.out _ _ ⟨hHeld.1, hHeld.2⟩ (fun hHeld => ?_)
                 clear hK K
                 refine norm_ (a' := ?_) ?_ ?_
                 rotate_left
                 ·show Act.put _ (some 58) _ = _
                  simp only [Act.put, zL, zM, zN, i64_w, i32_w]
                  rfl
                 refine zp 13 (some 59) #[true, true, true, true, true, true, true, true, true, true, true, true, true, true] HT_.out ?_
                 refine done_ (done_of HT_.out (by kernel_rfl)) ?_
                 try go_wp2
                 go_roundg k3
                 case measure => have := HK1.out; have := HJ14.out; have := HK3.out; omega
                 case rel => exact ⟨(wrap64 (x10_3 - 1)), zs, H', ⟨by have := HK1.out; have := HJ14.out; have := HK3.out; omega⟩, ⟨by (try simp only [hl0_1]); (with_reducible repeat (first | apply zF | apply zG | apply zH)); exact HO_0.out⟩, ⟨by repeat (first | (with_reducible first | exact HK.out | apply Kept.alloc | apply Kept.drewN | apply Kept.drew) | exact HK.out)⟩, ⟨zQ HB.out⟩⟩
                replace c32 := Bool.eq_false_iff.mpr c32
                subst c32
                rw [if_neg (show ¬ (false = true) by decide)] at H
                by_cases c34 : x9_14 > x10_3
                ·rw [if_pos c34] at H
                 have c34b0 : decide (x10_3 < x9_14) = true := decide_eq_true c34
                 clear c34
                 simp only [Option.some.injEq, Prod.mk.injEq] at H
                 obtain ⟨rfl, rfl⟩ := H
                 try go_wp2
                 replace HO_0 := zA (zH HO_0.out)
                 replace HK := zA (Kept.drew HK.out)
                 replace HB := zA (zD HB.out)
                 have p391 : 0 ≤ (a1 : Int) := zd
                 have q391 : a1 < (x0_1.length : Int) := zd
                 obtain ⟨ad391, e391, hx391_0⟩ := Kd.at_int (kB HO_0.out).2.2 a1 p391 q391
                 obtain rfl : (⟨go9, 0, none⟩ : Addr) = ad391 := (by injection e391)
                 (first | simp only [add_plain] at hx391_0 | simp only [add_at] at hx391_0 | simp only [Addr.add, Nat.zero_add] at hx391_0 | skip)
                 replace p391 := eq_true p391
                 replace q391 := eq_true q391
                 have p392 : 0 ≤ (x10_3 : Int) := zd
                 have q392 : x10_3 < (x0_1.length : Int) := zd
                 obtain ⟨ad392, e392, hx392_0⟩ := Kd.at_int (kB HO_0.out).2.2 x10_3 p392 q392
                 obtain rfl : (⟨go9, 0, none⟩ : Addr) = ad392 := (by injection e392)
                 (first | simp only [add_plain] at hx392_0 | simp only [add_at] at hx392_0 | simp only [Addr.add, Nat.zero_add] at hx392_0 | skip)
                 replace p392 := eq_true p392
                 replace q392 := eq_true q392
                 refine start_ (n := 14) (S := fun w' => w'.cell? ⟨go9, (a1).toNat, none⟩ = some (.int .i64 (rd x0_1 a1)) ∧ w'.cell? ⟨go9, (x10_3).toNat, none⟩ = some (.int .i64 (rd x0_1 x10_3))) (ds := []) #[false, false, false, false, false, false, false, false, false, false, false, false, false, false] (by kernel_rfl) rfl rfl ⟨hx391_0, hx392_0⟩ (fun hHeld => ?_); refine with_tabW slices_partitionEqualOrdered_int64.tab5 slices_partitionEqualOrdered_int64.bits5 (fun HT_ HW_ => ?_)
                 generalize wr.drew = w35 at HO_0 HK HB hx391_0 hx392_0 hHeld ⊢
                 refine zp 0 (some 46) #[true, false, false, false, false, false, false, false, false, false, false, false, false, false] HT_.out ?_
                 refine zp 1 (some 47) #[true, true, false, false, false, false, false, false, false, false, false, false, false, false] HT_.out ?_
                 refine zp 2 (some 48) #[true, true, true, false, false, false, false, false, false, false, false, false, false, false] HT_.out ?_
                 refine zp 3 (some 49) #[true, true, true, true, false, false, false, false, false, false, false, false, false, false] HT_.out ?_
                 refine zp 4 (some 50) #[true, true, true, true, true, false, false, false, false, false, false, false, false, false] HT_.out ?_
                 refine zp 5 (some 51) #[true, true, true, true, true, true, false, false, false, false, false, false, false, false] HT_.out ?_
                 refine zp 6 (some 52) #[true, true, true, true, true, true, true, false, false, false, false, false, false, false] HT_.out ?_
                 refine zp 8 (some 54) #[true, true, true, true, true, true, true, false, true, false, false, false, false, false] HT_.out ?_
                 refine zp 9 (some 55) #[true, true, true, true, true, true, true, false, true, true, false, false, false, false] HT_.out ?_
                 refine zp 10 (some 56) #[true, true, true, true, true, true, true, false, true, true, true, false, false, false] HT_.out ?_
                 refine zc 7 (some 53) #[true, true, true, true, true, true, true, true, true, true, true, false, false, false] HT_.out HW_.out hHeld ?_
                 refine zc 11 (some 57) #[true, true, true, true, true, true, true, true, true, true, true, true, false, false] HT_.out HW_.out hHeld ?_
                 refine one_ (i := 12) (N := some 58) #[true, true, true, true, true, true, true, true, true, true, true, true, true, false] rfl rfl (one_of HT_.out (by kernel_rfl)) (by decide) (fun K hK => ?_)
                 refine goes_ Tryd.func88 (by kernel_rfl) rfl #[.int .i64 (rd x0_1 a1), .int .i64 (rd x0_1 x10_3)] (by rfl) rfl rfl zg ?_
                 with_reducible refine (cmp_Less_int64.calls (rd x0_1 a1) (rd x0_1 x10_3) false _ A31.out).mono ?_
                 rintro e w' ⟨rfl, ⟨nd, rfl⟩⟩
                 refine ⟨_, rfl, ?_⟩
                 refine hK.out _ _ ⟨hHeld.1, hHeld.2⟩ (fun hHeld => ?_)
                 clear hK K
                 refine norm_ (a' := ?_) ?_ ?_
                 rotate_left
                 ·show Act.put _ (some 58) _ = _
                  simp only [Act.put, zL, zM, zN, i64_w, i32_w]
                  rfl
                 refine zp 13 (some 59) #[true, true, true, true, true, true, true, true, true, true, true, true, true, true] HT_.out ?_
                 refine done_ (done_of HT_.out (by kernel_rfl)) ?_
                 try go_wp2
                 go_ret
                 exact ⟨zr, (by first | exact (zP HO_0.out) | (simp only [hl0_1]; exact (zP HO_0.out))), zQ HB.out, by repeat (first | (with_reducible first | exact HK.out | apply Kept.alloc | apply Kept.drewN | apply Kept.drew) | exact HK.out)⟩
                rw [if_neg c34] at H
                have c34b0 : decide (x10_3 < x9_14) = false := decide_eq_false c34
                clear c34
                by_cases c36 : 0 ≤ x9_14
                ·rw [if_pos c36] at H
                 have c36b0 : decide (0 ≤ x9_14) = true := decide_eq_true c36
                 clear c36
                 by_cases c37 : x9_14 < (x0_1.length : Int)
                 ·rw [if_pos c37] at H
                  have c37b0 : decide (x9_14 < (x0_1.length : Int)) = true := decide_eq_true c37
                  (try (have c37b0h0_ := c37b0; rw [hl0_1] at c37b0h0_))
                  clear c37
                  obtain ⟨y396, hy396⟩ : ∃ y_ : List Int, y_ = (x0_1.set (x9_14 : Int).toNat (rd x0_1 x10_3)) := ⟨_, rfl⟩
                  replace H : (slices_partitionEqualOrdered_int64.l0 k3 (y396.set (x10_3 : Int).toNat (rd x0_1 x9_14)) a1 (wrap64 (x9_14 + 1)) (wrap64 (x10_3 - 1))) = some (r1, r2) := zy hy396 H
                  have Ny396 := zA hy396
                  clear hy396
                  obtain ⟨y397, hy397⟩ : ∃ y_ : List Int, y_ = (y396.set (x10_3 : Int).toNat (rd x0_1 x9_14)) := ⟨_, rfl⟩
                  replace H : (slices_partitionEqualOrdered_int64.l0 k3 y397 a1 (wrap64 (x9_14 + 1)) (wrap64 (x10_3 - 1))) = some (r1, r2) := zy hy397 H
                  have Ny397 := zA hy397
                  clear hy397
                  have H' := zA H
                  clear H
                  try go_wp2
                  replace HO_0 := zA (zH HO_0.out)
                  replace HK := zA (Kept.drew HK.out)
                  replace HB := zA (zD HB.out)
                  have p391 : 0 ≤ (a1 : Int) := zd
                  have q391 : a1 < (x0_1.length : Int) := zd
                  obtain ⟨ad391, e391, hx391_0⟩ := Kd.at_int (kB HO_0.out).2.2 a1 p391 q391
                  obtain rfl : (⟨go9, 0, none⟩ : Addr) = ad391 := (by injection e391)
                  (first | simp only [add_plain] at hx391_0 | simp only [add_at] at hx391_0 | simp only [Addr.add, Nat.zero_add] at hx391_0 | skip)
                  replace p391 := eq_true p391
                  replace q391 := eq_true q391
                  have p392 : 0 ≤ (x10_3 : Int) := zd
                  have q392 : x10_3 < (x0_1.length : Int) := zd
                  obtain ⟨ad392, e392, hx392_0⟩ := Kd.at_int (kB HO_0.out).2.2 x10_3 p392 q392
                  obtain rfl : (⟨go9, 0, none⟩ : Addr) = ad392 := (by injection e392)
                  (first | simp only [add_plain] at hx392_0 | simp only [add_at] at hx392_0 | simp only [Addr.add, Nat.zero_add] at hx392_0 | skip)
                  replace p392 := eq_true p392
                  replace q392 := eq_true q392
                  refine start_ (n := 14) (S := fun w' => w'.cell? ⟨go9, (a1).toNat, none⟩ = some (.int .i64 (rd x0_1 a1)) ∧ w'.cell? ⟨go9, (x10_3).toNat, none⟩ = some (.int .i64 (rd x0_1 x10_3))) (ds := []) #[false, false, false, false, false, false, false, false, false, false, false, false, false, false] (by kernel_rfl) rfl rfl ⟨hx391_0, hx392_0⟩ (fun hHeld => ?_); refine with_tabW slices_partitionEqualOrdered_int64.tab5 slices_partitionEqualOrdered_int64.bits5 (fun HT_ HW_ => ?_)
                  generalize wr.drew = w40 at HO_0 HK HB hx391_0 hx392_0 hHeld ⊢
                  refine zp 0 (some 46) #[true, false, false, false, false, false, false, false, false, false, false, false, false, false] HT_.out ?_
                  refine zp 1 (some 47) #[true, true, false, false, false, false, false, false, false, false, false, false, false, false] HT_.out ?_
                  refine zp 2 (some 48) #[true, true, true, false, false, false, false, false, false, false, false, false, false, false] HT_.out ?_
                  refine zp 3 (some 49) #[true, true, true, true, false, false, false, false, false, false, false, false, false, false] HT_.out ?_
                  refine zp 4 (some 50) #[true, true, true, true, true, false, false, false, false, false, false, false, false, false] HT_.out ?_
                  refine zp 5 (some 51) #[true, true, true, true, true, true, false, false, false, false, false, false, false, false] HT_.out ?_
                  refine zp 6 (some 52) #[true, true, true, true, true, true, true, false, false, false, false, false, false, false] HT_.out ?_
                  refine zp 8 (some 54) #[true, true, true, true, true, true, true, false, true, false, false, false, false, false] HT_.out ?_
                  refine zp 9 (some 55) #[true, true, true, true, true, true, true, false, true, true, false, false, false, false] HT_.out ?_
                  refine zp 10 (some 56) #[true, true, true, true, true, true, true, false, true, true, true, false, false, false] HT_.out ?_
                  refine zc 7 (some 53) #[true, true, true, true, true, true, true, true, true, true, true, false, false, false] HT_.out HW_.out hHeld ?_
                  refine zc 11 (some 57) #[true, true, true, true, true, true, true, true, true, true, true, true, false, false] HT_.out HW_.out hHeld ?_
                  refine one_ (i := 12) (N := some 58) #[true, true, true, true, true, true, true, true, true, true, true, true, true, false] rfl rfl (one_of HT_.out (by kernel_rfl)) (by decide) (fun K hK => ?_)
                  refine goes_ Tryd.func88 (by kernel_rfl) rfl #[.int .i64 (rd x0_1 a1), .int .i64 (rd x0_1 x10_3)] (by rfl) rfl rfl zg ?_
                  with_reducible refine (cmp_Less_int64.calls (rd x0_1 a1) (rd x0_1 x10_3) false _ A31.out).mono ?_
                  rintro e w' ⟨rfl, ⟨nd, rfl⟩⟩
                  refine ⟨_, rfl, ?_⟩
                  refine hK.out _ _ ⟨hHeld.1, hHeld.2⟩ (fun hHeld => ?_)
                  clear hK K
                  refine norm_ (a' := ?_) ?_ ?_
                  rotate_left
                  ·show Act.put _ (some 58) _ = _
                   simp only [Act.put, zL, zM, zN, i64_w, i32_w]
                   rfl
                  refine zp 13 (some 59) #[true, true, true, true, true, true, true, true, true, true, true, true, true, true] HT_.out ?_
                  refine done_ (done_of HT_.out (by kernel_rfl)) ?_
                  try go_wp2
                  (try (rw [drewN_self w40]; generalize hq_ : World.drewN w40 _ = w40; have n0_ : Aside0 (Kd.R (Kd.int .i64) 2 w40 w0.heap.size (fun k_ => (P0_ k_ ∨ w.heap.size ≤ k_)) (.slice (some ⟨go9, 0, none⟩) x0_1.length co12) x0_1) := ⟨by rw [← hq_]; exact (zP HO_0.out)⟩; have n1_ : Aside0 (Kept w w40 (fun k_ => P0_ k_)) := ⟨by rw [← hq_]; exact (by repeat (first | (with_reducible first | exact HK.out | apply Kept.alloc | apply Kept.drewN | apply Kept.drew) | exact HK.out))⟩; have n2_ : Aside0 (Below w0.heap.size w0 w40) := ⟨by rw [← hq_]; exact (zQ HB.out)⟩; clear HO_0 HK HB hq_; have HO_0 := n0_; have HK := n1_; have HB := n2_; clear n0_ n1_ n2_))
                  replace HO_0 := zA (zH HO_0.out)
                  replace HK := zA (Kept.drew HK.out)
                  replace HB := zA (zD HB.out)
                  have p394 : 0 ≤ (x10_3 : Int) := zd
                  have q394 : x10_3 < (x0_1.length : Int) := zd
                  obtain ⟨ad394, e394, hx394_0⟩ := Kd.at_int (kB HO_0.out).2.2 x10_3 p394 q394
                  obtain rfl : (⟨go9, 0, none⟩ : Addr) = ad394 := (by injection e394)
                  (first | simp only [add_plain] at hx394_0 | simp only [add_at] at hx394_0 | simp only [Addr.add, Nat.zero_add] at hx394_0 | skip)
                  replace p394 := eq_true p394
                  replace q394 := eq_true q394
                  have p395 : 0 ≤ (x9_14 : Int) := zd
                  have q395 : x9_14 < (x0_1.length : Int) := zd
                  obtain ⟨ad395, e395, hx395_0⟩ := Kd.at_int (kB HO_0.out).2.2 x9_14 p395 q395
                  obtain rfl : (⟨go9, 0, none⟩ : Addr) = ad395 := (by injection e395)
                  (first | simp only [add_plain] at hx395_0 | simp only [add_at] at hx395_0 | simp only [Addr.add, Nat.zero_add] at hx395_0 | skip)
                  replace p395 := eq_true p395
                  replace q395 := eq_true q395
                  have p38 : 0 ≤ (x9_14 : Int) := zd
                  have q38 : (x9_14 : Int) < ((x0_1.length : Int) : Int) := zd
                  obtain ⟨hx38_0, hf38_0⟩ := Kd.R_celln 0 HO_0.out (x9_14 : Int) p38 q38
                  replace p38 := eq_true p38
                  replace q38 := eq_true q38
                  have HP42 := Kd.R_putn HO_0.out (x9_14 : Int) (rd x0_1 x10_3)
                  rw [← Ny396.out] at HP42
                  have HQ42 := zA HP42
                  clear HP42
                  have p39 : 0 ≤ (x10_3 : Int) := zd
                  have q39 : (x10_3 : Int) < ((x0_1.length : Int) : Int) := zd
                  obtain ⟨hx39_0, hf39_0⟩ := Kd.R_celln 0 HQ42.out (x10_3 : Int) p39 q39
                  replace p39 := eq_true p39
                  replace q39 := eq_true q39
                  have HP43 := Kd.R_putn HQ42.out (x10_3 : Int) (rd x0_1 x9_14)
                  rw [← Ny397.out] at HP43
                  have HQ43 := zA HP43
                  clear HP43
                  refine start_ (n := 16) (S := fun w' => w'.cell? ⟨go9, (x10_3).toNat, none⟩ = some (.int .i64 (rd x0_1 x10_3)) ∧ w'.cell? ⟨go9, (x9_14).toNat, none⟩ = some (.int .i64 (rd x0_1 x9_14))) (ds := [13, 15]) #[false, false, false, false, false, false, false, false, false, false, false, false, false, false, false, false] (by kernel_rfl) rfl rfl ⟨hx394_0, hx395_0⟩ (fun hHeld => ?_); refine with_tabW slices_partitionEqualOrdered_int64.tab8 slices_partitionEqualOrdered_int64.bits8 (fun HT_ HW_ => ?_)
                  generalize w40.drew = w41 at HO_0 HK HB HQ42 HQ43 hf38_0 hf39_0 hx38_0 hx394_0 hx395_0 hx39_0 hHeld ⊢
                  refine zp 0 (some 65) #[true, false, false, false, false, false, false, false, false, false, false, false, false, false, false, false] HT_.out ?_
                  refine zp 1 (some 66) #[true, true, false, false, false, false, false, false, false, false, false, false, false, false, false, false] HT_.out ?_
                  refine zp 2 (some 67) #[true, true, true, false, false, false, false, false, false, false, false, false, false, false, false, false] HT_.out ?_
                  refine zp 3 (some 68) #[true, true, true, true, false, false, false, false, false, false, false, false, false, false, false, false] HT_.out ?_
                  refine zp 4 (some 69) #[true, true, true, true, true, false, false, false, false, false, false, false, false, false, false, false] HT_.out ?_
                  refine zp 5 (some 70) #[true, true, true, true, true, true, false, false, false, false, false, false, false, false, false, false] HT_.out ?_
                  refine zp 6 (some 71) #[true, true, true, true, true, true, true, false, false, false, false, false, false, false, false, false] HT_.out ?_
                  refine zp 8 (some 73) #[true, true, true, true, true, true, true, false, true, false, false, false, false, false, false, false] HT_.out ?_
                  refine zp 9 (some 74) #[true, true, true, true, true, true, true, false, true, true, false, false, false, false, false, false] HT_.out ?_
                  refine zp 10 (some 75) #[true, true, true, true, true, true, true, false, true, true, true, false, false, false, false, false] HT_.out ?_
                  refine zc 7 (some 72) #[true, true, true, true, true, true, true, true, true, true, true, false, false, false, false, false] HT_.out HW_.out hHeld ?_
                  refine zc 11 (some 76) #[true, true, true, true, true, true, true, true, true, true, true, true, false, false, false, false] HT_.out HW_.out hHeld ?_
                  refine zp 12 (some 77) #[true, true, true, true, true, true, true, true, true, true, true, true, true, false, false, false] HT_.out ?_
                  refine last_ (i := 13) (N := none) #[true, true, true, true, true, true, true, true, true, true, true, true, true, true, false, false] rfl rfl (one_of HT_.out (by kernel_rfl)) (by decide) (fun K hK => ?_)
                  refine skip_ (w1 := ?_) (by rfl) rfl ?_ ?_
                  rotate_left
                  ·go_simp
                   rfl
                  refine hK.out _ _ ?_
                  clear hK K
                  refine zp 14 (some 78) #[true, true, true, true, true, true, true, true, true, true, true, true, true, true, true, false] HT_.out ?_
                  refine last_ (i := 15) (N := none) #[true, true, true, true, true, true, true, true, true, true, true, true, true, true, true, true] rfl rfl (one_of HT_.out (by kernel_rfl)) (by decide) (fun K hK => ?_)
                  refine skip_ (w1 := ?_) (by rfl) rfl ?_ ?_
                  rotate_left
                  ·go_simp
                   rfl
                  refine hK.out _ _ ?_
                  clear hK K
                  refine done_ (done_of HT_.out (by kernel_rfl)) ?_
                  try go_wp2
                  (try simp only [← hl0_1])
                  go_roundg k3
                  case measure => have := HK1.out; have := HJ14.out; have := HK3.out; omega
                  case rel => exact ⟨(y397), (wrap64 (x9_14 + 1)), (wrap64 (x10_3 - 1)), zs, zs, H', ⟨by have := HK1.out; have := HJ14.out; have := HK3.out; omega⟩, ⟨by (try simp only [hl0_1]); (with_reducible repeat (first | apply zF | apply zG | apply zH)); exact HQ43.out⟩, ⟨by repeat (first | (with_reducible first | exact HK.out | apply Kept.alloc | apply Kept.drewN | apply Kept.drew | refine Kept.setCell ?_ HMgo9.out _ | refine Kept.setCell ?_ HMgo9.out _) | exact HK.out)⟩, ⟨zV HB.out GB9.out GB9.out⟩⟩
                 rw [if_neg c37] at H
                 exact absurd H (by simp)
                rw [if_neg c36] at H
                exact absurd H (by simp)
               rw [if_neg c30] at H
               exact absurd H (by simp)
              rw [if_neg c29] at H
              exact absurd H (by simp)
             rw [if_neg c28] at H
             exact absurd H (by simp)
            rw [if_neg c27] at H
            exact absurd H (by simp)
           rw [if_neg c26] at H
           have c26b0 : decide (x9_14 ≤ x10_3) = false := decide_eq_false c26
           clear c26
           by_cases c44 : x9_14 > x10_3
           ·rw [if_pos c44] at H
            have c44b0 : decide (x10_3 < x9_14) = true := decide_eq_true c44
            clear c44
            simp only [Option.some.injEq, Prod.mk.injEq] at H
            obtain ⟨rfl, rfl⟩ := H
            try go_wp2
            replace HO_0 := zA (zH HO_0.out)
            replace HK := zA (Kept.drew HK.out)
            replace HB := zA (zD HB.out)
            refine start_ (n := 14) (S := fun w' => True) (ds := []) #[false, false, false, false, false, false, false, false, false, false, false, false, false, false] (by kernel_rfl) rfl rfl trivial (fun hHeld => ?_); refine with_tabW slices_partitionEqualOrdered_int64.tab5 slices_partitionEqualOrdered_int64.bits5 (fun HT_ HW_ => ?_)
            generalize wr.drew = w45 at HO_0 HK HB hHeld ⊢
            refine zp 0 (some 46) #[true, false, false, false, false, false, false, false, false, false, false, false, false, false] HT_.out ?_
            refine zp 1 (some 47) #[true, true, false, false, false, false, false, false, false, false, false, false, false, false] HT_.out ?_
            refine zp 2 (some 48) #[true, true, true, false, false, false, false, false, false, false, false, false, false, false] HT_.out ?_
            refine zp 3 (some 49) #[true, true, true, true, false, false, false, false, false, false, false, false, false, false] HT_.out ?_
            refine zu 4 (some 50) #[true, true, true, true, true, false, false, false, false, false, false, false, false, false] HT_.out ?_
            refine zu 5 (some 51) #[true, true, true, true, true, true, false, false, false, false, false, false, false, false] HT_.out ?_
            refine zu 6 (some 52) #[true, true, true, true, true, true, true, false, false, false, false, false, false, false] HT_.out ?_
            refine zu 7 (some 53) #[true, true, true, true, true, true, true, true, false, false, false, false, false, false] HT_.out ?_
            refine zu 8 (some 54) #[true, true, true, true, true, true, true, true, true, false, false, false, false, false] HT_.out ?_
            refine zu 9 (some 55) #[true, true, true, true, true, true, true, true, true, true, false, false, false, false] HT_.out ?_
            refine zu 10 (some 56) #[true, true, true, true, true, true, true, true, true, true, true, false, false, false] HT_.out ?_
            refine zu 11 (some 57) #[true, true, true, true, true, true, true, true, true, true, true, true, false, false] HT_.out ?_
            refine zu 12 (some 58) #[true, true, true, true, true, true, true, true, true, true, true, true, true, false] HT_.out ?_
            refine zp 13 (some 59) #[true, true, true, true, true, true, true, true, true, true, true, true, true, true] HT_.out ?_
            refine done_ (done_of HT_.out (by kernel_rfl)) ?_
            try go_wp2
            go_ret
            exact ⟨zr, (by first | exact (zP HO_0.out) | (simp only [hl0_1]; exact (zP HO_0.out))), zQ HB.out, by repeat (first | (with_reducible first | exact HK.out | apply Kept.alloc | apply Kept.drewN | apply Kept.drew) | exact HK.out)⟩
           rw [if_neg c44] at H
           have c44b0 : decide (x10_3 < x9_14) = false := decide_eq_false c44
           clear c44
           by_cases c46 : 0 ≤ x10_3
           ·rw [if_pos c46] at H
            have c46b0 : decide (0 ≤ x10_3) = true := decide_eq_true c46
            clear c46
            by_cases c47 : x10_3 < (x0_1.length : Int)
            ·rw [if_pos c47] at H
             have c47b0 : decide (x10_3 < (x0_1.length : Int)) = true := decide_eq_true c47
             (try (have c47b0h0_ := c47b0; rw [hl0_1] at c47b0h0_))
             clear c47
             by_cases c48 : 0 ≤ x9_14
             ·rw [if_pos c48] at H
              have c48b0 : decide (0 ≤ x9_14) = true := decide_eq_true c48
              clear c48
              by_cases c49 : x9_14 < (x0_1.length : Int)
              ·rw [if_pos c49] at H
               have c49b0 : decide (x9_14 < (x0_1.length : Int)) = true := decide_eq_true c49
               (try (have c49b0h0_ := c49b0; rw [hl0_1] at c49b0h0_))
               clear c49
               obtain ⟨y400, hy400⟩ : ∃ y_ : List Int, y_ = (x0_1.set (x9_14 : Int).toNat (rd x0_1 x10_3)) := ⟨_, rfl⟩
               replace H : (slices_partitionEqualOrdered_int64.l0 k3 (y400.set (x10_3 : Int).toNat (rd x0_1 x9_14)) a1 (wrap64 (x9_14 + 1)) (wrap64 (x10_3 - 1))) = some (r1, r2) := zy hy400 H
               have Ny400 := zA hy400
               clear hy400
               obtain ⟨y401, hy401⟩ : ∃ y_ : List Int, y_ = (y400.set (x10_3 : Int).toNat (rd x0_1 x9_14)) := ⟨_, rfl⟩
               replace H : (slices_partitionEqualOrdered_int64.l0 k3 y401 a1 (wrap64 (x9_14 + 1)) (wrap64 (x10_3 - 1))) = some (r1, r2) := zy hy401 H
               have Ny401 := zA hy401
               clear hy401
               have H' := zA H
               clear H
               try go_wp2
               replace HO_0 := zA (zH HO_0.out)
               replace HK := zA (Kept.drew HK.out)
               replace HB := zA (zD HB.out)
               refine start_ (n := 14) (S := fun w' => True) (ds := []) #[false, false, false, false, false, false, false, false, false, false, false, false, false, false] (by kernel_rfl) rfl rfl trivial (fun hHeld => ?_); refine with_tabW slices_partitionEqualOrdered_int64.tab5 slices_partitionEqualOrdered_int64.bits5 (fun HT_ HW_ => ?_)
               generalize wr.drew = w52 at HO_0 HK HB hHeld ⊢
               refine zp 0 (some 46) #[true, false, false, false, false, false, false, false, false, false, false, false, false, false] HT_.out ?_
               refine zp 1 (some 47) #[true, true, false, false, false, false, false, false, false, false, false, false, false, false] HT_.out ?_
               refine zp 2 (some 48) #[true, true, true, false, false, false, false, false, false, false, false, false, false, false] HT_.out ?_
               refine zp 3 (some 49) #[true, true, true, true, false, false, false, false, false, false, false, false, false, false] HT_.out ?_
               refine zu 4 (some 50) #[true, true, true, true, true, false, false, false, false, false, false, false, false, false] HT_.out ?_
               refine zu 5 (some 51) #[true, true, true, true, true, true, false, false, false, false, false, false, false, false] HT_.out ?_
               refine zu 6 (some 52) #[true, true, true, true, true, true, true, false, false, false, false, false, false, false] HT_.out ?_
               refine zu 7 (some 53) #[true, true, true, true, true, true, true, true, false, false, false, false, false, false] HT_.out ?_
               refine zu 8 (some 54) #[true, true, true, true, true, true, true, true, true, false, false, false, false, false] HT_.out ?_
               refine zu 9 (some 55) #[true, true, true, true, true, true, true, true, true, true, false, false, false, false] HT_.out ?_
               refine zu 10 (some 56) #[true, true, true, true, true, true, true, true, true, true, true, false, false, false] HT_.out ?_
               refine zu 11 (some 57) #[true, true, true, true, true, true, true, true, true, true, true, true, false, false] HT_.out ?_
               refine zu 12 (some 58) #[true, true, true, true, true, true, true, true, true, true, true, true, true, false] HT_.out ?_
               refine zp 13 (some 59) #[true, true, true, true, true, true, true, true, true, true, true, true, true, true] HT_.out ?_
               refine done_ (done_of HT_.out (by kernel_rfl)) ?_
               try go_wp2
               replace HO_0 := zA (zH HO_0.out)
               replace HK := zA (Kept.drew HK.out)
               replace HB := zA (zD HB.out)
               have p398 : 0 ≤ (x10_3 : Int) := zd
               have q398 : x10_3 < (x0_1.length : Int) := zd
               obtain ⟨ad398, e398, hx398_0⟩ := Kd.at_int (kB HO_0.out).2.2 x10_3 p398 q398
               obtain rfl : (⟨go9, 0, none⟩ : Addr) = ad398 := (by injection e398)
               (first | simp only [add_plain] at hx398_0 | simp only [add_at] at hx398_0 | simp only [Addr.add, Nat.zero_add] at hx398_0 | skip)
               replace p398 := eq_true p398
               replace q398 := eq_true q398
               have p399 : 0 ≤ (x9_14 : Int) := zd
               have q399 : x9_14 < (x0_1.length : Int) := zd
               obtain ⟨ad399, e399, hx399_0⟩ := Kd.at_int (kB HO_0.out).2.2 x9_14 p399 q399
               obtain rfl : (⟨go9, 0, none⟩ : Addr) = ad399 := (by injection e399)
               (first | simp only [add_plain] at hx399_0 | simp only [add_at] at hx399_0 | simp only [Addr.add, Nat.zero_add] at hx399_0 | skip)
               replace p399 := eq_true p399
               replace q399 := eq_true q399
               have p50 : 0 ≤ (x9_14 : Int) := zd
               have q50 : (x9_14 : Int) < ((x0_1.length : Int) : Int) := zd
               obtain ⟨hx50_0, hf50_0⟩ := Kd.R_celln 0 HO_0.out (x9_14 : Int) p50 q50
               replace p50 := eq_true p50
               replace q50 := eq_true q50
               have HP54 := Kd.R_putn HO_0.out (x9_14 : Int) (rd x0_1 x10_3)
               rw [← Ny400.out] at HP54
               have HQ54 := zA HP54
               clear HP54
               have p51 : 0 ≤ (x10_3 : Int) := zd
               have q51 : (x10_3 : Int) < ((x0_1.length : Int) : Int) := zd
               obtain ⟨hx51_0, hf51_0⟩ := Kd.R_celln 0 HQ54.out (x10_3 : Int) p51 q51
               replace p51 := eq_true p51
               replace q51 := eq_true q51
               have HP55 := Kd.R_putn HQ54.out (x10_3 : Int) (rd x0_1 x9_14)
               rw [← Ny401.out] at HP55
               have HQ55 := zA HP55
               clear HP55
               refine start_ (n := 16) (S := fun w' => w'.cell? ⟨go9, (x10_3).toNat, none⟩ = some (.int .i64 (rd x0_1 x10_3)) ∧ w'.cell? ⟨go9, (x9_14).toNat, none⟩ = some (.int .i64 (rd x0_1 x9_14))) (ds := [13, 15]) #[false, false, false, false, false, false, false, false, false, false, false, false, false, false, false, false] (by kernel_rfl) rfl rfl ⟨hx398_0, hx399_0⟩ (fun hHeld => ?_); refine with_tabW slices_partitionEqualOrdered_int64.tab8 slices_partitionEqualOrdered_int64.bits8 (fun HT_ HW_ => ?_)
               generalize w52.drew = w53 at HO_0 HK HB HQ54 HQ55 hf50_0 hf51_0 hx398_0 hx399_0 hx50_0 hx51_0 hHeld ⊢
               refine zp 0 (some 65) #[true, false, false, false, false, false, false, false, false, false, false, false, false, false, false, false] HT_.out ?_
               refine zp 1 (some 66) #[true, true, false, false, false, false, false, false, false, false, false, false, false, false, false, false] HT_.out ?_
               refine zp 2 (some 67) #[true, true, true, false, false, false, false, false, false, false, false, false, false, false, false, false] HT_.out ?_
               refine zp 3 (some 68) #[true, true, true, true, false, false, false, false, false, false, false, false, false, false, false, false] HT_.out ?_
               refine zp 4 (some 69) #[true, true, true, true, true, false, false, false, false, false, false, false, false, false, false, false] HT_.out ?_
               refine zp 5 (some 70) #[true, true, true, true, true, true, false, false, false, false, false, false, false, false, false, false] HT_.out ?_
               refine zp 6 (some 71) #[true, true, true, true, true, true, true, false, false, false, false, false, false, false, false, false] HT_.out ?_
               refine zp 8 (some 73) #[true, true, true, true, true, true, true, false, true, false, false, false, false, false, false, false] HT_.out ?_
               refine zp 9 (some 74) #[true, true, true, true, true, true, true, false, true, true, false, false, false, false, false, false] HT_.out ?_
               refine zp 10 (some 75) #[true, true, true, true, true, true, true, false, true, true, true, false, false, false, false, false] HT_.out ?_
               refine zc 7 (some 72) #[true, true, true, true, true, true, true, true, true, true, true, false, false, false, false, false] HT_.out HW_.out hHeld ?_
               refine zc 11 (some 76) #[true, true, true, true, true, true, true, true, true, true, true, true, false, false, false, false] HT_.out HW_.out hHeld ?_
               refine zp 12 (some 77) #[true, true, true, true, true, true, true, true, true, true, true, true, true, false, false, false] HT_.out ?_
               refine last_ (i := 13) (N := none) #[true, true, true, true, true, true, true, true, true, true, true, true, true, true, false, false] rfl rfl (one_of HT_.out (by kernel_rfl)) (by decide) (fun K hK => ?_)
               refine skip_ (w1 := ?_) (by rfl) rfl ?_ ?_
               rotate_left
               ·go_simp
                rfl
               refine hK.out _ _ ?_
               clear hK K
               refine zp 14 (some 78) #[true, true, true, true, true, true, true, true, true, true, true, true, true, true, true, false] HT_.out ?_
               refine last_ (i := 15) (N := none) #[true, true, true, true, true, true, true, true, true, true, true, true, true, true, true, true] rfl rfl (one_of HT_.out (by kernel_rfl)) (by decide) (fun K hK => ?_)
               refine skip_ (w1 := ?_) (by rfl) rfl ?_ ?_
               rotate_left
               ·go_simp
                rfl
               refine hK.out _ _ ?_
               clear hK K
               refine done_ (done_of HT_.out (by kernel_rfl)) ?_
               try go_wp2
               (try simp only [← hl0_1])
               go_roundg k3
               case measure => have := HK1.out; have := HJ14.out; have := HK3.out; omega
               case rel => exact ⟨(y401), (wrap64 (x9_14 + 1)), (wrap64 (x10_3 - 1)), zs, zs, H', ⟨by have := HK1.out; have := HJ14.out; have := HK3.out; omega⟩, ⟨by (try simp only [hl0_1]); (with_reducible repeat (first | apply zF | apply zG | apply zH)); exact HQ55.out⟩, ⟨by repeat (first | (with_reducible first | exact HK.out | apply Kept.alloc | apply Kept.drewN | apply Kept.drew | refine Kept.setCell ?_ HMgo9.out _ | refine Kept.setCell ?_ HMgo9.out _) | exact HK.out)⟩, ⟨zV HB.out GB9.out GB9.out⟩⟩
              rw [if_neg c49] at H
              exact absurd H (by simp)
             rw [if_neg c48] at H
             exact absurd H (by simp)
            rw [if_neg c47] at H
            exact absurd H (by simp)
           rw [if_neg c46] at H
           exact absurd H (by simp)
    rw [if_neg c8] at H
    exact absurd H (by simp)
   rw [if_neg c7] at H
   exact absurd H (by simp)
  rw [if_neg c6] at H
  exact absurd H (by simp)
 rw [if_neg c5] at H
 exact absurd H (by simp)

-- NOT PRINTED: function 90 (slices_partitionOrdered_int64)

-- NOT PRINTED: function 80 (slices_pdqsortOrdered_int64)

-- NOT PRINTED: function 78 (slices_Sort_int64_int64)

-- NOT PRINTED: function 72 (impl_family_sorted)

/-! ### impl_cliques: function 62: a contract of our own -/
def srt_ren : Go.Shelf.Ren := ⟨fun | 5 => 78 | 8 => 81 | 7 => 80 | 19 => 91 | 20 => 92 | 10 => 82 | 11 => 83 | 12 => 84 | 13 => 85 | 14 => 86 | 15 => 87 | 16 => 88 | 17 => 89 | 18 => 90 | 30 => 93 | 31 => 94 | 32 => 95 | 33 => 96 | 34 => 97 | 35 => 98 | 40 => 99 | n => n, fun | 23 => 22 | 25 => 2 | 3 => 3 | 32 => 81 | 22 => 22 | 0 => 0 | 44 => 96 | 46 => 69 | 4 => 4 | 36 => 89 | 35 => 88 | 41 => 93 | 5 => 5 | 9 => 9 | 53 => 97 | 57 => 101 | 63 => 103 | 64 => 104 | n => n, fun n => n⟩
theorem srt : SlLaysM.n5 Tryd.prog srt_ren := {
 mixed := by kernel_rfl,
 f5 := ⟨Tryd.f78.name, by decide, Tryd.func78.trans (congrArg some (by kernel_rfl))⟩,
 f7 := ⟨Tryd.f80.name, by decide, Tryd.func80.trans (congrArg some (by kernel_rfl))⟩,
 f8 := Tryd.func81.trans (congrArg some (by kernel_rfl)),
 f10 := ⟨Tryd.f82.name, by decide, Tryd.func82.trans (congrArg some (by kernel_rfl))⟩,
 f11 := ⟨Tryd.f83.name, by decide, Tryd.func83.trans (congrArg some (by kernel_rfl))⟩,
 f12 := ⟨Tryd.f84.name, by decide, Tryd.func84.trans (congrArg some (by kernel_rfl))⟩,
 f13 := ⟨Tryd.f85.name, by decide, Tryd.func85.trans (congrArg some (by kernel_rfl))⟩,
 f14 := ⟨Tryd.f86.name, by decide, Tryd.func86.trans (congrArg some (by kernel_rfl))⟩,
 f15 := ⟨Tryd.f87.name, by decide, Tryd.func87.trans (congrArg some (by kernel_rfl))⟩,
 f16 := ⟨Tryd.f88.name, by decide, Tryd.func88.trans (congrArg some (by kernel_rfl))⟩,
 f17 := ⟨Tryd.f89.name, by decide, Tryd.func89.trans (congrArg some (by kernel_rfl))⟩,
 f18 := ⟨Tryd.f90.name, by decide, Tryd.func90.trans (congrArg some (by kernel_rfl))⟩,
 f19 := Tryd.func91.trans (congrArg some (by kernel_rfl)),
 f20 := Tryd.func92.trans (congrArg some (by kernel_rfl)),
 f30 := ⟨Tryd.f93.name, by decide, Tryd.func93.trans (congrArg some (by kernel_rfl))⟩,
 f31 := Tryd.func94.trans (congrArg some (by kernel_rfl)),
 f32 := Tryd.func95.trans (congrArg some (by kernel_rfl)),
 f33 := ⟨Tryd.f96.name, by decide, Tryd.func96.trans (congrArg some (by kernel_rfl))⟩,
 f34 := ⟨Tryd.f97.name, by decide, Tryd.func97.trans (congrArg some (by kernel_rfl))⟩,
 f35 := ⟨Tryd.f98.name, by decide, Tryd.func98.trans (congrArg some (by kernel_rfl))⟩,
 f40 := ⟨Tryd.f99.name, by decide, Tryd.func99.trans (congrArg some (by kernel_rfl))⟩,
 t0 := Tryd.underlying0,
 a0 := Tryd.isAgg0,
 z0 := Tryd.sizeOf0,
 v0 := Tryd.zeroValue0,
 t3 := Tryd.underlying3,
 a3 := Tryd.isAgg3,
 z3 := Tryd.sizeOf3,
 v3 := Tryd.zeroValue3,
 t4 := Tryd.underlying4,
 a4 := Tryd.isAgg4,
 z4 := Tryd.sizeOf4,
 v4 := Tryd.zeroValue4,
 t5 := Tryd.underlying5,
 a5 := Tryd.isAgg5,
 z5 := Tryd.sizeOf5,
 v5 := Tryd.zeroValue5,
 t9 := Tryd.underlying9,
 a9 := Tryd.isAgg9,
 z9 := Tryd.sizeOf9,
 v9 := Tryd.zeroValue9,
 t22 := Tryd.underlying22,
 a22 := Tryd.isAgg22,
 z22 := Tryd.sizeOf22,
 v22 := Tryd.zeroValue22,
 t23 := Tryd.underlying22,
 a23 := Tryd.isAgg22,
 z23 := Tryd.sizeOf22,
 v23 := Tryd.zeroValue22,
 t25 := Tryd.underlying2,
 a25 := Tryd.isAgg2,
 z25 := Tryd.sizeOf2,
 v25 := Tryd.zeroValue2,
 t32 := Tryd.underlying81,
 a32 := Tryd.isAgg81,
 z32 := Tryd.sizeOf81,
 v32 := Tryd.zeroValue81,
 t35 := Tryd.underlying88,
 a35 := Tryd.isAgg88,
 z35 := Tryd.sizeOf88,
 v35 := Tryd.zeroValue88,
 t36 := Tryd.underlying89,
 a36 := Tryd.isAgg89,
 z36 := Tryd.sizeOf89,
 v36 := Tryd.zeroValue89,
 t41 := Tryd.underlying93,
 a41 := Tryd.isAgg93,
 z41 := Tryd.sizeOf93,
 v41 := Tryd.zeroValue93,
 t44 := Tryd.underlying96,
 a44 := Tryd.isAgg96,
 z44 := Tryd.sizeOf96,
 v44 := Tryd.zeroValue96,
 t46 := Tryd.underlying69,
 a46 := Tryd.isAgg69,
 z46 := Tryd.sizeOf69,
 v46 := Tryd.zeroValue69,
 t53 := Tryd.underlying97,
 a53 := Tryd.isAgg97,
 z53 := Tryd.sizeOf97,
 v53 := Tryd.zeroValue97,
 t57 := Tryd.underlying101,
 a57 := Tryd.isAgg101,
 z57 := Tryd.sizeOf101,
 v57 := Tryd.zeroValue101,
 t63 := Tryd.underlying103,
 a63 := Tryd.isAgg103,
 z63 := Tryd.sizeOf103,
 v63 := Tryd.zeroValue103,
 t64 := Tryd.underlying104,
 a64 := Tryd.isAgg104,
 z64 := Tryd.sizeOf104,
 v64 := Tryd.zeroValue104 }
set_option maxHeartbeats 2000000 in
set_option maxRecDepth 100000 in
theorem sort_R (M : Nat) (g cap : Nat) (xs : List Int) (w : World) (h : Kd.R (Kd.int .i64) 2 w M (fun _ => True) (.slice (some ⟨g, 0, none⟩) xs.length cap) xs) (hl : xs.length < 4611686018427387904) :
  Calls Tryd.prog 78 #[.slice (some ⟨g, 0, none⟩) xs.length cap] w fun e w' => e = .returned (.tuple #[]) ∧ Kd.R (Kd.int .i64) 2 w' M (fun _ => True) (.slice (some ⟨g, 0, none⟩) xs.length cap) (xs.mergeSort fun x y => decide (x ≤ y)) ∧ w.grownBy w' (some g) := by
 have hH : Go.Sort.Holds (Value.int .i64) w g 0 xs.toArray := fun j hj => by
  have hj' : j < xs.length := by simpa using hj
  obtain ⟨a, b⟩ := Kd.R_celln (0 : Int) h (j : Int) (by omega) (by omega)
  rw [Nat.zero_add]
  refine ⟨?_, b⟩
  have e : rdOf (0 : Int) xs (j : Int) = xs.toArray[j]! := by simp [rdOf, hj', List.getD]
  rw [← e]
  exact a
 have hblk : g < w.heap.size := kH h g rfl
 have hs : Calls Tryd.prog 78 #[.slice (some ⟨g, 0, none⟩) xs.length cap] w _ := AnyM.slices_Sort_int srt g 0 cap xs w hH hblk hl
 refine hs.mono ?_
 rintro e w' ⟨he, n, os, rfl⟩
 obtain ⟨hlen, hv⟩ := Kd.own_of_R h
 rcases hv with ⟨hv, _⟩ | ⟨g', cap', cur, hv, hb, hbk, hnc, hcm, hcs, htk⟩
 ·cases hv
 injection hv with e1 e2 e3
 injection e1 with e1
 injection e1 with e1
 subst e1
 subst e3
 have hk : (Go.Sort.grow (Go.Sort.putRow (Value.int .i64) (Go.Sort.ahead w n) g 0 (xs.mergeSort fun x y => decide (x ≤ y)).toArray) os).heap[g]? = some (.cells (Go.Sort.putCells (Value.int .i64) 0 (xs.mergeSort fun x y => decide (x ≤ y)).toArray cur) 2 (0, 0)) := by
  show ((w.heap.modify g _) ++ os)[g]? = _
  rw [Array.getElem?_append_left (by simpa using hblk), Array.getElem?_modify, if_pos rfl, hbk]
  rfl
 have hm : (xs.mergeSort fun x y => decide (x ≤ y)).length = xs.length := List.length_mergeSort xs
 refine ⟨he, Kd.R_of_own ⟨?_, Or.inr ⟨g, cap, _, ?_, hb, hk, ?_, hcm, ?_, ?_⟩⟩ (fun _ _ => trivial), ⟨rfl, rfl, rfl, ?_, ?_⟩⟩
 ·rw [encs_length, Nat.mul_one]
 ·rw [hm]
 ·rw [hm]; exact hnc
 ·simpa [Go.Sort.putCells] using hcs
 ·refine List.ext_getElem? (fun j => ?_)
  rw [Nat.mul_one, hm, List.getElem?_take]
  have hcl : xs.length ≤ cur.size := by omega
  by_cases hj : j < xs.length
  ·rw [if_pos hj]
   simp [Go.Sort.putCells, encs, hm, hj, List.getElem?_eq_getElem, Array.getElem?_eq_getElem (show j < cur.size by omega)]
  rw [if_neg hj]
  simp [encs, List.getElem?_eq_none, hm, show xs.length ≤ j by omega]
 ·simp [Go.Sort.grow, Go.Sort.putRow, Go.Sort.mapBlock, Go.Sort.ahead]
 intro k hk1 hk2
 show ((w.heap.modify g _) ++ os)[k]? = _
 rw [Array.getElem?_append_left (by simpa using hk1), Array.getElem?_modify, if_neg (fun e => hk2 (by rw [e]))]
@[go_sem] theorem field_depends (a b : Value) (w : World) : Sem.run Tryd.prog (Instr.field 29 (.agg #[a, b]) 1) w = .ok b w := by
 have hi := Tryd.sizeOf22
 have hg := Tryd.isAgg22
 simp [Instr.field, asAgg, go_sem, hi, hg]
/-- all blocks below M but B are as they were -/
structure FBut (M B : Nat) (w w' : World) : Prop where
 os : w'.os = w.os
 tape : w'.tape = w.tape
 output : w'.output = w.output
 size : w.heap.size ≤ w'.heap.size
 block : ∀ i, i < M → i ≠ B → w'.heap[i]? = w.heap[i]?
theorem FBut.refl (M B : Nat) (w : World) : FBut M B w w := ⟨rfl, rfl, rfl, Nat.le_refl _, fun _ _ _ => rfl⟩
theorem FBut.trans {M B : Nat} {w w1 w2 : World} (h : FBut M B w w1) (k : FBut M B w1 w2) : FBut M B w w2 :=
 ⟨k.os.trans h.os, k.tape.trans h.tape, k.output.trans h.output, Nat.le_trans h.size k.size, fun i h1 h2 => (k.block i h1 h2).trans (h.block i h1 h2)⟩
theorem FBut.of_below {M B : Nat} {w w1 : World} (h : Below w.heap.size w w1) (hM : M ≤ w.heap.size) : FBut M B w w1 := ⟨h.os, h.tape, h.output, h.size, fun i h1 _ => h.block i (by omega)⟩
theorem FBut.of_grown {M B : Nat} {w w1 : World} {row : Option Nat} (h : w.grownBy w1 row) (hM : M ≤ w.heap.size) (hr : ∀ k, row = some k → M ≤ k) : FBut M B w w1 :=
 ⟨h.os, h.tape, h.output, h.size, fun i h1 _ => h.block i (by omega) (fun e => by have := hr i e.symm; omega)⟩
theorem FBut.set {M B : Nat} {w w1 : World} (h : FBut M B w w1) (j : Nat) (u : Value) : FBut M B w (w1.setCell ⟨B, j, none⟩ u) :=
 ⟨by simpa [World.setCell] using h.os, by simpa [World.setCell] using h.tape, by simpa [World.setCell] using h.output, by simpa using h.size, fun i h1 h2 => (Below.heap_setCell w1 ⟨B, j, none⟩ u i h2).trans (h.block i h1 h2)⟩
structure Hold (P : Prop) : Prop where
 go : P
set_option maxHeartbeats 4000000 in
set_option maxRecDepth 100000 in
theorem family_add (M B : Nat) (v : Value) (xs : List Int) (m : Int) (w : World) (hB : w.heap[B]? = some (.cells #[v, .bool false] 77 (0, 0))) (hR : Kd.R (Kd.int .i64) 2 w M (fun _ => True) v xs) (hBM : B < M) (hM : M ≤ w.heap.size) (hl : xs.length < 4096) :
  Calls Tryd.prog 77 #[.pointer (some ⟨B, 0, none⟩), .int .i64 m] w fun e w' => ∃ v', e = .returned (.bool true) ∧ w'.heap[B]? = some (.cells #[v', .bool false] 77 (0, 0)) ∧ Kd.R (Kd.int .i64) 2 w' M (fun _ => True) v' (xs ++ [m]) ∧ FBut M B w w' := by
 obtain ⟨A, c, rfl, hc, hC⟩ := Kd.R_reads hR
 have hBl := jI hB
 have h0 := kV hB 0
 have h1 := kV hB 1
 have f0 := jH hB 0
 have f1 := jH hB 1
 have HR := zA hR
 have HBB := zA hB
 clear hR hC hB
 have hfz : ¬ (xs.length : Int) = 4096 := by omega
 have hfq : ((xs.length : Int) == 4096) = false := by simpa using hfz
 have hs := blk_set HBB.out 1 (.bool false)
 have HS := zA (show (w.setCell ⟨B, 1, none⟩ (.bool false)).heap[B]? = some (.cells #[.slice A xs.length c, .bool false] 77 (0, 0)) by simpa using hs)
 have HR1 := zA (Kd.R_set HR.out HBB.out (by decide) 1 (.bool false))
 have HM1 := zA (show M ≤ (w.setCell ⟨B, 1, none⟩ (.bool false)).heap.size by simpa using hM)
 clear hs
 go_enter Tryd.func77, Tryd.ntmps77
 go_wp2_with (first | ((with_reducible refine gate_builtin (b := .append) (xs := #[.tmp 23, .tmp 25]) rfl ?_); at_builtin; refine Hold.go ?_))
 refine ⟨?_⟩
 refine Kd.R_append (Kd.int .i64) (w0 := w.setCell ⟨B, 1, none⟩ (.bool false)) M rfl (.tmp 23) (.tmp 25) 22 2 (.int .i64 0) 8 rfl Tryd.underlying22 info2 rfl (by decide) (by omega) (.slice A xs.length c) xs m [.int .i64 m] (fun _ => True) (fun _ => False) (by simp [Act.eval]) (by simp [Act.eval]) ?aP (fun _ hk => hk.elim) ?aF ?aO ?aB ?aS ?aL ?_
 case aP => exact rfl
 case aB => exact kW M _
 case aF => exact (fun _ _ => trivial)
 case aO => exact (zP HR1.out)
 case aS => exact HM1.out
 case aL => omega
 intro v6 w6 ho hb hg hat
 have HO6 := zA ho
 have HG6 := zA hg
 have hob : ∀ k, (Value.slice A xs.length c).ownBlock = some k → M ≤ k := by
  obtain ⟨_, inner, hown, _⟩ := HR1.out
  exact own_base hown
 have hne : some B ≠ (Value.slice A xs.length c).ownBlock := fun e => by
  have := hob B e.symm
  omega
 have B6 := blk_grown HS.out hg hne
 have hB6 := jI B6
 have g0 := kV B6 0
 have g1 := kV B6 1
 have k0 := jH B6 0
 have k1 := jH B6 1
 have F6 := ((FBut.refl M B w).set 1 (.bool false)).trans (FBut.of_grown (B := B) hg HM1.out hob)
 have HB6 := zA B6
 have HF6 := zA F6
 clear ho hb hg hat B6 F6 hob
 obtain ⟨A6, c6, rfl, hc6, hC6⟩ := Kd.R_reads HO6.out
 clear hC6
 go_wp2
 go_ret
 refine ⟨.slice A6 (xs ++ [m]).length c6, rfl, ?_, Kd.R_set HO6.out HB6.out (by decide) 0 _, HF6.out.set 0 _⟩
 have := blk_set HB6.out 0 (.slice A6 (xs ++ [m]).length c6)
 simpa using this
def impl_growCliques.l0 (near : List Int) : Nat → Int → Int → Option (List Int)
 | 0, _, _ => none
 | k + 1, ch, op => if op = 0 then some [] else (impl_least.f op).bind fun i => if 0 ≤ i then (if i < (near.length : Int) then (impl_one.f i).bind fun o => (impl_growCliques.l0 near k (Go.bits .or .i64 ch o) (Go.bits .and .i64 (Go.bits .and .i64 op (wrap64 (op - 1))) (rd near i))).bind fun xs => (impl_growCliques.l0 near k ch (Go.bits .and .i64 op (wrap64 (op - 1)))).bind fun ys => some (Go.bits .or .i64 ch o :: (xs ++ ys)) else none) else none
/-- what stays while a family at B grows -/
structure FRest (M B : Nat) (An : Option Addr) (near : List Int) (w : World) : Prop where
 lt : B < M
 le : M ≤ w.heap.size
 tab : ∀ w', FBut M B w w' → TabW w'
 near : ∀ w', FBut M B w w' → (Kd.int .i64).C w' An near.length near
theorem FRest.on {M B : Nat} {An : Option Addr} {near : List Int} {w w1 : World} (h : FRest M B An near w) (k : FBut M B w w1) : FRest M B An near w1 :=
 ⟨h.lt, Nat.le_trans h.le k.size, fun w' e => h.tab w' (k.trans e), fun w' e => h.near w' (k.trans e)⟩
set_option maxHeartbeats 8000000 in
set_option maxRecDepth 100000 in
theorem grow_calls (M B : Nat) (An : Option Addr) (cn : Nat) (near : List Int) (hcn : near.length ≤ cn) : ∀ (k : Nat) (ch op : Int) (r : List Int) (xs : List Int) (v : Value) (w : World), impl_growCliques.l0 near k ch op = some r →
  w.heap[B]? = some (.cells #[v, .bool false] 77 (0, 0)) → Kd.R (Kd.int .i64) 2 w M (fun _ => True) v xs → FRest M B An near w → xs.length + r.length < 4096 →
  Calls Tryd.prog 70 #[.slice An near.length cn, .int .i64 ch, .int .i64 op, .pointer (some ⟨B, 0, none⟩)] w fun e w' => ∃ v', e = .returned (.bool true) ∧ w'.heap[B]? = some (.cells #[v', .bool false] 77 (0, 0)) ∧ Kd.R (Kd.int .i64) 2 w' M (fun _ => True) v' (xs ++ ch :: r) ∧ FBut M B w w' := by
 intro k
 induction k using Nat.strongRecOn with
 | ind k IH =>
 intro ch op r xs v w hf hB hR hF hl
 have H' := zA hf
 have HB := zA hB
 have HR := zA hR
 have HF := zA hF
 clear hf hB hR hF
 go_enter Tryd.func70, Tryd.ntmps70
 go_wp2_with (first | (go_at_call 77; (with_reducible refine (family_add M B v xs ch w HB.out HR.out HF.out.lt HF.out.le (by omega)).mono ?_); rintro e w1 ⟨v1, rfl, hb1, hr1, hf1⟩; have HB1 := zA hb1; have HR1 := zA hr1; have HF1 := zA hf1; clear hb1 hr1 hf1))
 go_loopg [2, 9] k (fun kq v2 v9 w' => ∃ (op_1 : Int) (r_1 xs_1 : List Int) (v_1 : Value), v2 = .int .i64 op_1 ∧ Aside0 (impl_growCliques.l0 near kq ch op_1 = some r_1) ∧ Aside0 (kq ≤ k) ∧ Aside0 (w'.heap[B]? = some (.cells #[v_1, .bool false] 77 (0, 0))) ∧ Aside0 (Kd.R (Kd.int .i64) 2 w' M (fun _ => True) v_1 xs_1) ∧ Aside0 (FBut M B w w') ∧ Aside0 (xs_1 ++ r_1 = xs ++ ch :: r))
 case atStart => exact ⟨op, r, xs ++ [ch], v1, rfl, H', ⟨Nat.le_refl _⟩, HB1, HR1, HF1, ⟨by simp⟩⟩
 case round =>
  obtain ⟨op_1, r_1, xs_1, v_1, rfl, HA, HK1, HB2, HR2, HF2, HX⟩ := hrel
  cases gk with
  | zero => exact absurd HA.out (by simp [impl_growCliques.l0])
  | succ k1 =>
   have H := HA.out
   clear HA H' HB1 HR1 HF1
   simp only [impl_growCliques.l0] at H
   by_cases c4 : op_1 = 0
   ·rw [if_pos c4] at H
    obtain ⟨c4b0, c4b1⟩ := zT1 c4
    clear c4
    obtain rfl := Option.some.inj H
    go_wp2
    go_ret
    have hx := HX.out
    rw [List.append_nil] at hx
    subst hx
    exact ⟨rfl, v_1, HB2.out, HR2.out, HF2.out⟩
   rw [if_neg c4] at H
   obtain ⟨c4b0, c4b1⟩ := zT2 c4
   obtain ⟨i, A5, H⟩ := zb H
   try dsimp only at H
   by_cases p1 : 0 ≤ i
   ·rw [if_pos p1] at H
    by_cases q1 : i < (near.length : Int)
    ·rw [if_pos q1] at H
     obtain ⟨o, A6, H⟩ := zb H
     obtain ⟨la, A7, H⟩ := zb H
     obtain ⟨lb, A8, H⟩ := zb H
     have A9 := zA (Option.some.inj H)
     clear H
     have HF3 := zA (HF.out.on HF2.out)
     have HN := zA (HF3.out.near _ (FBut.refl _ _ _))
     have HT := zA (HF3.out.tab _ (FBut.refl _ _ _))
     obtain ⟨ad, e0, hcell⟩ := Kd.at_int HN.out i p1 q1
     subst e0
     have p1b : decide (0 ≤ i) = true := decide_eq_true p1
     have q1b : decide (i < (near.length : Int)) = true := decide_eq_true q1
     go_wp2_with (first | (refine zO (some 21) Tryd.func75 #[.int .i64 op_1] ?_; (with_reducible refine (impl_least.calls op_1 i _ ?side1 A5.out).mono ?_); (case side1 => exact HT.out); rintro e w' ⟨rfl, ⟨nd, rfl⟩⟩; refine ⟨_, rfl, ?_⟩))
     have hd : Below wr.heap.size wr (wr.drewN nd).drew := below_drew (zC (kW wr.heap.size wr) nd)
     have hfd := FBut.of_below (M := M) (B := B) hd HF3.out.le
     have HF4 := zA (HF3.out.on hfd)
     have HFB := zA (HF2.out.trans hfd)
     have HB4 := zA ((hd.block B (jI HB2.out)).trans HB2.out)
     have HR4 := zA (kL HR2.out hd)
     have hcell4 : (wr.drewN nd).drew.cell? (ad.add i.toNat) = some (.int .i64 (rd near i)) := pw_cell_below hd hcell
     clear hd hfd
     refine start_ (n := 17) (S := fun w' => w'.cell? (ad.add i.toNat) = some (.int .i64 (rd near i))) (ds := []) #[false, false, false, false, false, false, false, false, false, false, false, false, false, false, false, false, false] (by kernel_rfl) rfl rfl hcell4 (fun hHeld => ?_)
     generalize (wr.drewN nd).drew = w4 at HF4 HFB HB4 HR4 hcell4 hHeld ⊢
     refine pure_ (i := 0) (N := some 22) (v := ?_) (a' := ?_) #[true, false, false, false, false, false, false, false, false, false, false, false, false, false, false, false, false] rfl rfl (by kernel_rfl) (fun _ _ _ h => h) (Or.inl ⟨by rfl, ?_⟩) ?_ ?_
     rotate_left
     ·intro w'
      go_simp
      with_reducible rfl
     rotate_left
     ·simp only [Act.put, zL, zM, zN, i64_w, i32_w]
      rfl
     refine pure_ (i := 1) (N := some 23) (v := ?_) (a' := ?_) #[true, true, false, false, false, false, false, false, false, false, false, false, false, false, false, false, false] rfl rfl (by kernel_rfl) (fun _ _ _ h => h) (Or.inl ⟨by rfl, ?_⟩) ?_ ?_
     rotate_left
     ·intro w'
      go_simp
      with_reducible rfl
     rotate_left
     ·simp only [Act.put, zL, zM, zN, i64_w, i32_w]
      rfl
     refine pure_ (i := 2) (N := some 24) (v := ?_) (a' := ?_) #[true, true, true, false, false, false, false, false, false, false, false, false, false, false, false, false, false] rfl rfl (by kernel_rfl) (fun _ _ _ h => h) (Or.inl ⟨by rfl, ?_⟩) ?_ ?_
     rotate_left
     ·intro w'
      go_simp
      with_reducible rfl
     rotate_left
     ·simp only [Act.put, zL, zM, zN, i64_w, i32_w]
      rfl
     refine pure_ (i := 5) (N := some 27) (v := ?_) (a' := ?_) #[true, true, true, false, false, true, false, false, false, false, false, false, false, false, false, false, false] rfl rfl (by kernel_rfl) (fun _ _ _ h => h) (Or.inl ⟨by rfl, ?_⟩) ?_ ?_
     rotate_left
     ·intro w'
      go_simp
      with_reducible rfl
     rotate_left
     ·simp only [Act.put, zL, zM, zN, i64_w, i32_w]
      rfl
     refine pure_ (i := 6) (N := some 28) (v := ?_) (a' := ?_) #[true, true, true, false, false, true, true, false, false, false, false, false, false, false, false, false, false] rfl rfl (by kernel_rfl) (fun _ _ _ h => h) (Or.inl ⟨by rfl, ?_⟩) ?_ ?_
     rotate_left
     ·intro w'
      go_simp
      with_reducible rfl
     rotate_left
     ·simp only [Act.put, zL, zM, zN, i64_w, i32_w]
      rfl
     refine pure_ (i := 7) (N := some 29) (v := ?_) (a' := ?_) #[true, true, true, false, false, true, true, true, false, false, false, false, false, false, false, false, false] rfl rfl (by kernel_rfl) (fun _ _ _ h => h) (Or.inl ⟨by rfl, ?_⟩) ?_ ?_
     rotate_left
     ·intro w'
      go_simp
      with_reducible rfl
     rotate_left
     ·simp only [Act.put, zL, zM, zN, i64_w, i32_w]
      rfl
     refine pure_ (i := 8) (N := some 30) (v := ?_) (a' := ?_) #[true, true, true, false, false, true, true, true, true, false, false, false, false, false, false, false, false] rfl rfl (by kernel_rfl) (fun _ _ _ h => h) (Or.inl ⟨by rfl, ?_⟩) ?_ ?_
     rotate_left
     ·intro w'
      go_simp
      with_reducible rfl
     rotate_left
     ·simp only [Act.put, zL, zM, zN, i64_w, i32_w]
      rfl
     refine pure_ (i := 9) (N := some 31) (v := ?_) (a' := ?_) #[true, true, true, false, false, true, true, true, true, true, false, false, false, false, false, false, false] rfl rfl (by kernel_rfl) (fun _ _ _ h => h) (Or.inl ⟨by rfl, ?_⟩) ?_ ?_
     rotate_left
     ·intro w'
      go_simp
      with_reducible rfl
     rotate_left
     ·simp only [Act.put, zL, zM, zN, i64_w, i32_w]
      rfl
     refine pure_ (i := 10) (N := some 32) (v := ?_) (a' := ?_) #[true, true, true, false, false, true, true, true, true, true, true, false, false, false, false, false, false] rfl rfl (by kernel_rfl) (fun _ _ _ h => h) (Or.inl ⟨by rfl, ?_⟩) ?_ ?_
     rotate_left
     ·intro w'
      go_simp
      with_reducible rfl
     rotate_left
     ·simp only [Act.put, zL, zM, zN, i64_w, i32_w]
      rfl
     refine pure_ (i := 11) (N := some 33) (v := ?_) (a' := ?_) #[true, true, true, false, false, true, true, true, true, true, true, true, false, false, false, false, false] rfl rfl (by kernel_rfl) (fun _ _ _ h => h) (Or.inl ⟨by rfl, ?_⟩) ?_ ?_
     rotate_left
     ·intro w'
      go_simp
      with_reducible rfl
     rotate_left
     ·simp only [Act.put, zL, zM, zN, i64_w, i32_w]
      rfl
     refine take_ (i := 12) (N := some 34) (v := ?_) (a' := ?_) #[true, true, true, false, false, true, true, true, true, true, true, true, true, false, false, false, false] rfl rfl (by kernel_rfl) (fun _ _ _ h => h) (Or.inl ⟨by rfl, ?_⟩) hHeld ?_ ?_
     rotate_left
     ·intro w' s0
      go_simp
      with_reducible rfl
     rotate_left
     ·simp only [Act.put, zL, zM, zN, i64_w, i32_w]
      rfl
     refine pure_ (i := 13) (N := some 35) (v := ?_) (a' := ?_) #[true, true, true, false, false, true, true, true, true, true, true, true, true, true, false, false, false] rfl rfl (by kernel_rfl) (fun _ _ _ h => h) (Or.inl ⟨by rfl, ?_⟩) ?_ ?_
     rotate_left
     ·intro w'
      go_simp
      with_reducible rfl
     rotate_left
     ·simp only [Act.put, zL, zM, zN, i64_w, i32_w]
      rfl
     refine pure_ (i := 14) (N := some 36) (v := ?_) (a' := ?_) #[true, true, true, false, false, true, true, true, true, true, true, true, true, true, true, false, false] rfl rfl (by kernel_rfl) (fun _ _ _ h => h) (Or.inl ⟨by rfl, ?_⟩) ?_ ?_
     rotate_left
     ·intro w'
      go_simp
      with_reducible rfl
     rotate_left
     ·simp only [Act.put, zL, zM, zN, i64_w, i32_w]
      rfl
     refine one_ (i := 3) (N := some 25) #[true, true, true, true, false, true, true, true, true, true, true, true, true, true, true, false, false] rfl rfl (by kernel_rfl) (by decide) (fun K hK => ?_)
     refine goes_ Tryd.func61 (by kernel_rfl) rfl #[.int .i64 i] (by rfl) rfl rfl (by simp only [List.map_toArray, List.map_cons, List.map_nil]; rfl) ?_
     with_reducible refine (impl_one.calls i o _ A6.out).mono ?_
     rintro e w5 ⟨rfl, ⟨nd5, rfl⟩⟩
     refine ⟨_, rfl, ?_⟩
     have hd5 : Below w4.heap.size w4 (w4.drewN nd5) := zC (kW _ _) nd5
     have hfd5 := FBut.of_below (M := M) (B := B) hd5 HF4.out.le
     have HF5 := zA (HF4.out.on hfd5)
     have HFB5 := zA (HFB.out.trans hfd5)
     have HB5 := zA ((hd5.block B (jI HB4.out)).trans HB4.out)
     have HR5 := zA (kL HR4.out hd5)
     refine hK.out _ _ (pw_cell_below hd5 hcell4) (fun hHeld => ?_)
     clear hd5 hfd5
     generalize w4.drewN nd5 = w5 at HF5 HFB5 HB5 HR5 hHeld ⊢
     clear hK K
     refine norm_ (a' := ?_) ?_ ?_
     rotate_left
     ·show Act.put _ (some 25) _ = _
      simp only [Act.put, zL, zM, zN, i64_w, i32_w]
      rfl
     refine pure_ (i := 4) (N := some 26) (v := ?_) (a' := ?_) #[true, true, true, true, true, true, true, true, true, true, true, true, true, true, true, false, false] rfl rfl (by kernel_rfl) (fun _ _ _ h => h) (Or.inl ⟨by rfl, ?_⟩) ?_ ?_
     rotate_left
     ·intro w'
      go_simp
      with_reducible rfl
     rotate_left
     ·simp only [Act.put, zL, zM, zN, i64_w, i32_w]
      rfl
     refine one_ (i := 15) (N := some 37) #[true, true, true, true, true, true, true, true, true, true, true, true, true, true, true, true, false] rfl rfl (by kernel_rfl) (by decide) (fun K hK => ?_)
     refine goes_ Tryd.func70 (by kernel_rfl) rfl #[.slice (some ad) near.length cn, .int .i64 (Go.bits .or .i64 ch o), .int .i64 (Go.bits .and .i64 (Go.bits .and .i64 op_1 (wrap64 (op_1 - 1))) (rd near i)), .pointer (some ⟨B, 0, none⟩)] (by rfl) rfl rfl (by simp only [List.map_toArray, List.map_cons, List.map_nil]; rfl) ?_
     have hxl : xs_1.length + la.length < 4096 := by
      have hx := congrArg List.length HX.out
      rw [← A9.out] at hx
      simp only [List.length_append, List.length_cons] at hx
      omega
     with_reducible refine (IH k1 (by have := HK1.out; omega) _ _ la xs_1 v_1 _ A7.out HB5.out HR5.out HF5.out hxl).mono ?_
     rintro e w6 ⟨v6, rfl, hb6, hr6, hf6⟩
     refine ⟨_, rfl, ?_⟩
     have HF6 := zA (HF5.out.on hf6)
     have HFB6 := zA (HFB5.out.trans hf6)
     have HB6 := zA hb6
     have HR6 := zA hr6
     obtain ⟨ad6, e6, hcell6⟩ := Kd.at_int (HF5.out.near _ hf6) i p1 q1
     injection e6 with e6
     subst e6
     refine hK.out _ _ hcell6 (fun hHeld => ?_)
     clear hb6 hr6 hf6 hK K
     refine norm_ (a' := ?_) ?_ ?_
     rotate_left
     ·show Act.put _ (some 37) _ = _
      simp only [Act.put, zL, zM, zN, i64_w, i32_w]
      rfl
     refine pure_ (i := 16) (N := some 38) (v := ?_) (a' := ?_) #[true, true, true, true, true, true, true, true, true, true, true, true, true, true, true, true, true] rfl rfl (by kernel_rfl) (fun _ _ _ h => h) (Or.inl ⟨by rfl, ?_⟩) ?_ ?_
     rotate_left
     ·intro w'
      go_simp
      with_reducible rfl
     rotate_left
     ·simp only [Act.put, zL, zM, zN, i64_w, i32_w]
      rfl
     refine done_ (by kernel_rfl) ?_
     go_wp2
     go_roundg k1
     case measure => have := HK1.out; omega
     case rel =>
      refine ⟨Go.bits .and .i64 op_1 (wrap64 (op_1 - 1)), lb, xs_1 ++ (Go.bits .or .i64 ch o) :: la, v6, rfl, A8, ⟨by have := HK1.out; omega⟩, HB6, HR6, HFB6, ⟨?_⟩⟩
      have hx := HX.out
      rw [← A9.out] at hx
      rw [← hx]
      simp
    rw [if_neg q1] at H
    exact absurd H (by simp)
   rw [if_neg p1] at H
   exact absurd H (by simp)
set_option maxHeartbeats 2000000 in
set_option maxRecDepth 100000 in
theorem family_sorted (M B : Nat) (v : Value) (xs : List Int) (w : World) (hB : w.heap[B]? = some (.cells #[v, .bool false] 77 (0, 0))) (hR : Kd.R (Kd.int .i64) 2 w M (fun _ => True) v xs) (hBM : B < M) (hM : M ≤ w.heap.size) (hl : xs.length < 4096) (hp : 0 < xs.length) :
  Calls Tryd.prog 72 #[.pointer (some ⟨B, 0, none⟩)] w fun e w' => ∃ v', e = .returned (.tuple #[v', .int .i64 0]) ∧ Kd.R (Kd.int .i64) 2 w' M (fun _ => True) v' (xs.mergeSort fun x y => decide (x ≤ y)) ∧ FBut M B w w' := by
 obtain ⟨g, c, rfl, hg, hgl, _⟩ := Kd.R_form hR hp
 have hBl := jI hB
 have h0 := kV hB 0
 have h1 := kV hB 1
 have HR := zA hR
 have HBB := zA hB
 clear hR hB
 go_enter Tryd.func72, Tryd.ntmps72
 go_wp2_with (first | (go_at_call 78; refine Hold.go ?_))
 refine ⟨?_⟩
 refine (sort_R M g c xs w HR.out (by omega)).mono ?_
 rintro e w5 ⟨rfl, hr5, hg5⟩
 have hne : some B ≠ some g := fun e => by
  injection e with e
  omega
 have hB5 := blk_grown HBB.out hg5 hne
 have hB5l := jI hB5
 have k0 := kV hB5 0
 have HR5 := zA hr5
 have HF5 := zA (FBut.of_grown (B := B) hg5 hM (fun k e => by
  injection e with e
  omega))
 clear hr5 hg5 hB5
 go_wp2
 go_ret2
 exact ⟨_, rfl, HR5.out, HF5.out⟩
def impl_cliques.f (k : Nat) (l0 : List Int) : Option (List Int × Int) :=
 (impl_mutual.f k l0).bind fun near => (impl_length_int64.f l0).bind fun n => (impl_one.f n).bind fun o => (impl_growCliques.l0 near k 0 (wrap64 (o - 1))).bind fun r => if r.length < 4095 then some ((0 :: r).mergeSort fun x y => decide (x ≤ y), 0) else none
set_option maxHeartbeats 8000000 in
set_option maxRecDepth 100000 in
theorem impl_cliques.calls (k : Nat) (A0 : Option Addr) (c0 : Nat) (l0 : List Int) (r1 : List Int) (r2 : Int) (w : World) (hr0 : Kd.C (Kd.int .i64) w A0 l0.length l0) (hc0 : l0.length ≤ c0) (hT : TabW w) (h : impl_cliques.f k l0 = some (r1, r2)) :
  Calls Tryd.prog 62 #[.slice A0 l0.length c0] w fun e w' => ∃ v0_ : Value, e = .returned (.tuple #[v0_, .int .i64 r2]) ∧ Kd.R (Kd.int .i64) 2 w' w.heap.size (fun _ => True) v0_ r1 ∧ Below w.heap.size w w' := by
 have HR0 := zA hr0
 have HC0 := zA hc0
 have HT := zA hT
 clear hr0 hc0 hT
 have H := h
 unfold impl_cliques.f at H
 clear h
 obtain ⟨near, A1, H⟩ := zb H
 try dsimp only at H
 obtain ⟨n, A2, H⟩ := zb H
 try dsimp only at H
 obtain ⟨o, A3, H⟩ := zb H
 try dsimp only at H
 obtain ⟨r, A4, H⟩ := zb H
 try dsimp only at H
 by_cases hl : r.length < 4095
 ·rw [if_pos hl] at H
  injection H with H
  injection H with e1 e2
  subst e1
  subst e2
  go_enter Tryd.func62, Tryd.ntmps62
  go_wp2_with (first | (go_at_call 71; refine Hold.go ?_))
  refine ⟨?_⟩
  have hb1 : Below w.heap.size w (w.alloc (.cells #[.slice none 0 0, .bool false] 77)) := zB (kW _ w) _
  have hcell : (w.alloc (.cells #[.slice none 0 0, .bool false] 77)).heap[w.heap.size]? = some (.cells #[.slice none 0 0, .bool false] 77 (0, 0)) := by
   show (w.heap.push _)[w.heap.size]? = _
   exact Array.getElem?_push_size
  have hsz : (w.alloc (.cells #[.slice none 0 0, .bool false] 77)).heap.size = w.heap.size + 1 := Array.size_push _
  generalize w.alloc (.cells #[.slice none 0 0, .bool false] 77) = w1 at hb1 hcell hsz ⊢
  refine (impl_mutual.calls k A0 c0 l0 near w1 (kO HR0.out hb1) HC0.out (TabW.below HT.out hb1) A1.out).mono ?_
  rintro e w2 ⟨v2, rfl, hr2, hb2⟩
  obtain ⟨An, cn, rfl, hcn, hC2⟩ := Kd.R_reads hr2
  have HB2 := zA ((hb2.block _ (by omega)).trans hcell)
  have hs2 := hb2.size
  have hb3 : Below w.heap.size w w2 := ⟨hb2.os.trans hb1.os, hb2.tape.trans hb1.tape, hb2.output.trans hb1.output, by omega, fun i hi => (hb2.block i (by omega)).trans (hb1.block i hi)⟩
  have HR2 := zA hr2
  have HD2 := zA hb3
  have HC2 := zA (kO HR0.out hb3)
  clear hb1 hcell hr2 hb2 hC2 hb3
  go_wp2_with (first | (go_at_call 51; (with_reducible refine (impl_length_int64.calls _ _ l0 n _ ?side1 ?side2 A2.out).mono ?_); (case side1 => exact HC2.out); (case side2 => exact HC0.out); rintro e w' ⟨rfl, ⟨nd, rfl⟩⟩) | (go_at_call 61; (with_reducible refine (impl_one.calls n o _ A3.out).mono ?_); rintro e w' ⟨rfl, ⟨nd3, rfl⟩⟩) | (go_at_call 70; refine Hold.go ?_))
  refine ⟨?_⟩
  have hd3 : Below w2.heap.size w2 (w2.drewN (nd + nd3)) := zC (kW _ _) _
  have hb3 : Below w.heap.size w (w2.drewN (nd + nd3)) := ⟨hd3.os.trans HD2.out.os, hd3.tape.trans HD2.out.tape, hd3.output.trans HD2.out.output, by have := hd3.size; omega, fun i hi => (hd3.block i (by omega)).trans (HD2.out.block i hi)⟩
  have hr3 := kL HR2.out hd3
  have hB3 := (hd3.block _ (by omega)).trans HB2.out
  have hs3 := hd3.size
  generalize w2.drewN (nd + nd3) = w3 at hd3 hb3 hr3 hB3 hs3 ⊢
  have hlt : w.heap.size < w3.heap.size := by omega
  have hbw : ∀ w', FBut w3.heap.size w.heap.size w3 w' → Below w.heap.size w w' := fun w' e => ⟨e.os.trans hb3.os, e.tape.trans hb3.tape, e.output.trans hb3.output, by have := e.size; omega, fun i hi => (e.block i (by omega) (by omega)).trans (hb3.block i hi)⟩
  have hne : some w.heap.size ≠ (Value.slice An near.length cn).ownBlock := fun e => by
   have := kC hr3 _ e.symm
   omega
  have HFR : FRest w3.heap.size w.heap.size An near w3 := ⟨hlt, Nat.le_refl _, fun w' e => TabW.below HT.out (hbw w' e), fun w' e => (kB (Kd.R_grown1 hr3 rfl (row := some w.heap.size) ⟨e.os, e.tape, e.output, e.size, fun k hk hn => e.block k hk (fun h => hn (by rw [h]))⟩ hne)).2.2⟩
  refine (grow_calls w3.heap.size w.heap.size An cn near hcn k 0 (wrap64 (o - 1)) r [] (.slice none 0 0) w3 A4.out hB3 (jO _ _ _ _ _) HFR (by simp; omega)).mono ?_
  rintro e w4 ⟨v4, rfl, hb4, hr4, hf4⟩
  have HB4 := zA hb4
  have HR4 := zA hr4
  have HF4 := zA hf4
  have HBW := zA hbw
  have hM4 := hf4.size
  have hlr : ([] ++ 0 :: r : List Int).length < 4096 := by simp; omega
  have hpr : 0 < ([] ++ 0 :: r : List Int).length := by simp
  clear hd3 hb3 hr3 hB3 hbw hne HFR hb4 hr4 hf4
  go_wp2_with (first | (go_at_call 72; (with_reducible refine (family_sorted w3.heap.size w.heap.size v4 ([] ++ 0 :: r) w4 HB4.out HR4.out hlt hM4 hlr hpr).mono ?_); rintro e w5 ⟨v5, rfl, hr5, hf5⟩))
  go_ret2
  exact ⟨_, rfl, kI hr5 (by omega), HBW.out _ (HF4.out.trans hf5)⟩
 rw [if_neg hl] at H
 exact absurd H (by simp)

/-! ### impl_allLetters: function 73 -/
def impl_allLetters.f (a0_0 : Int) (l0_1 : List Int) : Option (Int) := (impl_one.f a0_0).bind fun t446 => (some (wrap64 (t446 - 1)))
set_option maxHeartbeats 8000000 in
set_option maxRecDepth 100000 in
theorem impl_allLetters.calls (a0_0 : Int) (A0_1 : Option Addr) (c0_1 : Nat) (l0_1 : List Int) (r : Int) (w : World) (hr0_1 : Kd.C (Kd.int .i64) w A0_1 l0_1.length l0_1) (hc0_1 : l0_1.length ≤ c0_1) (h : impl_allLetters.f a0_0 l0_1 = some r) :
  Calls Tryd.prog 73 #[.agg #[.int .i64 a0_0, .slice A0_1 l0_1.length c0_1]] w fun e w' => e = .returned (.int .i64 r) ∧ Below w.heap.size w w' := by
 have hu29 := Tryd.underlying29
 have HR0_1 := zA hr0_1
 have HC0_1 := zA hc0_1
 clear hr0_1 hc0_1
 have HB := zA (kW w.heap.size w)
 have H := h
 unfold impl_allLetters.f at H
 clear h
 obtain ⟨t446, A2, H⟩ := zb H
 try dsimp only at H
 obtain rfl := Option.some.inj H
 go_enter Tryd.func73, Tryd.ntmps73
 go_wp2_with (first | (refine zBE 1 #[.int .i64 a0_0, .slice A0_1 l0_1.length c0_1] 29 ?_; intro gb445 hg w3 hbox hb; have BK445 := zA (hbox); have GW445 := zA (zBH hg HB.out); have GE445 := zA (zBH hg HB.out); replace HB := zA (kQ (zQ HB.out) hb); clear hb hbox hg; obtain ⟨hcz4_0, hcz4_1, hfz4_0, hfz4_1⟩ := zB3 BK445.out) | (refine zO (some 5) Tryd.func61 #[.int .i64 a0_0] ?_; (with_reducible refine (impl_one.calls a0_0 t446 _ A2.out).mono ?_); rintro e w' ⟨rfl, ⟨nd, rfl⟩⟩; refine ⟨_, rfl, ?_⟩))
 go_ret
 exact ⟨zr, zT HB.out GE445.out⟩

end Go.Proofs.YtemdfjdmokbcoaaDoor.PAll
