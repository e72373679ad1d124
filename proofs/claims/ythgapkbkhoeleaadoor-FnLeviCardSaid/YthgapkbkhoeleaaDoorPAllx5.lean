-- Printed by a program of the session (wip/tools/pgen.py) out of the translation. Not trusted: Lean checks it.
import Derived.Test.YthgapkbkhoeleaaDoorPAllx0
import Derived.Test.YthgapkbkhoeleaaDoorPAllx1
import Derived.Test.YthgapkbkhoeleaaDoorPAllx2
namespace Go.Proofs.YthgapkbkhoeleaaDoor.PAll
open Go.RowKit Go.Proofs.YthgapkbkhoeleaaDoor.T Go.Proofs.YthgapkbkhoeleaaDoorW.PrintWords Go.Proofs.YthgapkbkhoeleaaDoorW.PrintLast Go.Proofs.YthgapkbkhoeleaaDoorW.PrintMore
attribute [local go_sem] max2_int min2_int max_two min_two max_three min_three max_four min_four   -- for this text's walks alone
set_option linter.unusedVariables false
set_option linter.unusedSimpArgs false

/-! ### spec_l05Meet: function 81 -/
mutual
def spec_l05Meet.l0 : Nat → List Int → List Int → List Int → Bool → Int → List Int → Option (List Int)
 | 0, _, _, _, _, _, _ => none
 | k + 1, x7, x8, x9, x10, x151000, x151001 => if x10 = true then (spec_l05Meet.l1 k x7 x8 x9 false 0 x151000 x151001) else (some x7)
def spec_l05Meet.l1 : Nat → List Int → List Int → List Int → Bool → Int → Int → List Int → Option (List Int)
 | 0, _, _, _, _, _, _, _ => none
 | k + 1, x7, x8, x9, x10, x11, x151000, x151001 => if x11 < x151000 then ((spec_l03First.f k x151000 x151001 x8 x11).bind fun t160 => ((spec_l03First.f k x151000 x151001 x9 x11).bind fun t161 => (if t160 ≥ 0 then (spec_l05Meet.j2 k x7 x8 x9 x10 x11 t160 t161 (decide (t161 ≥ 0)) x151000 x151001) else (spec_l05Meet.j2 k x7 x8 x9 x10 x11 t160 t161 false x151000 x151001)))) else (spec_l05Meet.l0 k x7 x8 x9 x10 x151000 x151001)
def spec_l05Meet.j2 : Nat → List Int → List Int → List Int → Bool → Int → Int → Int → Bool → Int → List Int → Option (List Int)
 | 0, _, _, _, _, _, _, _, _, _, _ => none
 | k + 1, x7, x8, x9, x10, x11, x12, x13, x39, x151000, x151001 => if x39 = true then (if x7.length < 17592186044416 then ((spec_l03Without.f x8 x12).bind fun t165 => ((spec_l03Without.f x9 x13).bind fun t168 => (spec_l05Meet.l1 k (x7 ++ [x11]) t165 t168 true (wrap64 (x11 + 1)) x151000 x151001))) else (none)) else (spec_l05Meet.l1 k x7 x8 x9 x10 (wrap64 (x11 + 1)) x151000 x151001)
end
def spec_l05Meet.f (k : Nat) (a0_0 : Int) (l0_1 : List Int) (l1 : List Int) (l2 : List Int) : Option (List Int) := (spec_l01Own.f l1).bind fun t154 => ((spec_l01Own.f l2).bind fun t157 => (spec_l05Meet.l0 k (([] : List Int)) t154 t157 true a0_0 l0_1))

def spec_l05Meet.T8 : Bool × List (List Nat × List Nat) := (true, [([], []), ([], []), ([], []), ([0, 1, 2], [0, 1, 2]), ([], []), ([], []), ([], []), ([4, 5, 6, 3], [4, 5, 6]), ([3, 7, 0, 1, 2, 3], [3]), ([7, 8, 0, 1, 2, 3, 4, 5, 6, 7, 8], [7])])
def spec_l05Meet.B8 : List Nat := [0, 0, 0, 7, 0, 0, 0, 127, 255, 511]
theorem spec_l05Meet.tab8 : rtab .any (opsOf Tryd.f81 8) = spec_l05Meet.T8 := by kernel_rfl
theorem spec_l05Meet.bits8 : waitsOk spec_l05Meet.T8.2 spec_l05Meet.B8 = true := by kernel_rfl
set_option maxHeartbeats 8000000 in
set_option maxRecDepth 100000 in
theorem spec_l05Meet.calls (k : Nat) (a0_0 : Int) (A0_1 : Option Addr) (c0_1 : Nat) (l0_1 : List Int) (A1 : Option Addr) (c1 : Nat) (l1 : List Int) (A2 : Option Addr) (c2 : Nat) (l2 : List Int) (r : List Int) (w : World) (hr0_1 : Kd.C (Kd.int .i64) w A0_1 l0_1.length l0_1) (hc0_1 : l0_1.length ≤ c0_1) (hr1 : Kd.C (Kd.int .i64) w A1 l1.length l1) (hc1 : l1.length ≤ c1) (hr2 : Kd.C (Kd.int .i64) w A2 l2.length l2) (hc2 : l2.length ≤ c2) (h : spec_l05Meet.f k a0_0 l0_1 l1 l2 = some r) :
  Calls Tryd.prog 81 #[.agg #[.int .i64 a0_0, .slice A0_1 l0_1.length c0_1], .slice A1 l1.length c1, .slice A2 l2.length c2] w fun e w' => ∃ v0_ : Value, e = .returned (v0_) ∧ Kd.R (Kd.int .i64) 2 w' w.heap.size (fun _ => True) v0_ r ∧ Below w.heap.size w w' := by
 have hu29 := Tryd.underlying29
 have HR0_1 := zA hr0_1
 have HC0_1 := zA hc0_1
 clear hr0_1 hc0_1
 have HR1 := zA hr1
 have HC1 := zA hc1
 clear hr1 hc1
 have HR2 := zA hr2
 have HC2 := zA hc2
 clear hr2 hc2
 have HB := zA (kW w.heap.size w)
 have H := h
 unfold spec_l05Meet.f at H
 clear h
 obtain ⟨y151, hy151⟩ : ∃ y_ : List Int, y_ = (([] : List Int)) := ⟨_, rfl⟩
 replace H : ((spec_l01Own.f l1).bind fun t154 => ((spec_l01Own.f l2).bind fun t157 => (spec_l05Meet.l0 k y151 t154 t157 true a0_0 l0_1))) = some r := zy hy151 H
 have Ny151 := zA hy151
 clear hy151
 obtain ⟨t154, A4, H⟩ := zb H
 try dsimp only at H
 obtain ⟨t157, A5, H⟩ := zb H
 try dsimp only at H
 have H' := zA H
 clear H
 go_enter Tryd.func81, Tryd.ntmps81
 go_wp2_with (first | (refine zBE 3 #[.int .i64 a0_0, .slice A0_1 l0_1.length c0_1] 29 ?_; intro gb150 hg w6 hbox hb; have BK150 := zA (hbox); have GW150 := zA (zBH hg HB.out); have GE150 := zA (zBH hg HB.out); replace HB := zA (kQ (zQ HB.out) hb); clear hb hbox hg) | ((with_reducible refine kS (N := 14) rfl ?_); refine Kd.R_lit (Kd.int .i64) _ 2 ?hg (N := 14) ?hd (xs := ([] : List Int)) (inner := []) (ok := fun _ => True) (okp := fun _ => True) ?hr ?hp (fun _ hk => hk) trivial (kW _ _) (Nat.le_refl _) (by simp) ?_; (case hd => rfl); (case hg => rfl); (case hr => first | (go_simp; done) | (go_simp; rfl)); (case hp => exact (Reps.none _ _)); intro v152 w7 ho8 hb hg_ hnew_; clear hg_ hnew_; (first | rw [← Ny151.out] at ho8 | (simp only [Int.reduceToNat] at ho8; rw [← Ny151.out] at ho8)); have HO153 := zA (kI ho8 (kP (zT HB.out GE150.out))); replace BK150 := zA (zB1 BK150.out hb); replace HB := zA (kQ (zT HB.out GE150.out) hb); clear hb ho8) | (refine zO (some 16) Tryd.func80 #[.slice A1 l1.length c1] ?_; (with_reducible refine (spec_l01Own.calls _ _ l1 t154 _ ?side1 ?side2 A4.out).mono ?_); (case side1 => exact zS (kO HR1.out HB.out)); (case side2 => exact HC1.out); rintro e w9 ⟨v155, rfl, ho0, hb⟩; refine ⟨_, rfl, ?_⟩; have HO156 := zA (kI (kF ho0 (kH (zP HO153.out))) (kP (zT HB.out GE150.out))); replace HO153 := zA (kE (zP HO153.out) (kC ho0) hb); replace BK150 := zA (zB1 BK150.out hb); replace HB := zA (kQ (zT HB.out GE150.out) hb); (try clear hb); (try clear ho0)) | (refine zO (some 18) Tryd.func80 #[.slice A2 l2.length c2] ?_; (with_reducible refine (spec_l01Own.calls _ _ l2 t157 _ ?side1 ?side2 A5.out).mono ?_); (case side1 => exact zS (kO HR2.out HB.out)); (case side2 => exact HC2.out); rintro e w10 ⟨v158, rfl, ho0, hb⟩; refine ⟨_, rfl, ?_⟩; have HO159 := zA (kI (kF (kF ho0 (kH (zP HO153.out))) (kH (zP HO156.out))) (kP (zT HB.out GE150.out))); replace HO153 := zA (kE (zP HO153.out) (kC ho0) hb); replace HO156 := zA (kE (zP HO156.out) (kC ho0) hb); replace BK150 := zA (zB1 BK150.out hb); replace HB := zA (kQ (zT HB.out GE150.out) hb); (try clear hb); (try clear ho0)))
 go_loopg [7, 8, 9, 10] k (fun kq v7 v8 v9 v10 w' => ∃ (x7_1 : List Int) (x8_1 : List Int) (x9_1 : List Int) (x10_1 : Bool), v10 = .bool x10_1 ∧ Aside0 (spec_l05Meet.l0 kq x7_1 x8_1 x9_1 x10_1 a0_0 l0_1 = some r) ∧ Aside0 (kq ≤ k) ∧ Aside0 (Kd.R (Kd.int .i64) 2 w' w.heap.size (fun k_ => some k_ ≠ (v8 : Value).ownBlock ∧ some k_ ≠ (v9 : Value).ownBlock) v7 x7_1) ∧ Aside0 (Kd.R (Kd.int .i64) 2 w' w.heap.size (fun k_ => some k_ ≠ (v7 : Value).ownBlock ∧ some k_ ≠ (v9 : Value).ownBlock) v8 x8_1) ∧ Aside0 (Kd.R (Kd.int .i64) 2 w' w.heap.size (fun k_ => some k_ ≠ (v7 : Value).ownBlock ∧ some k_ ≠ (v8 : Value).ownBlock) v9 x9_1) ∧ Aside0 (w'.heap[gb150]? = some (.cells #[.int .i64 a0_0, (.slice A0_1 l0_1.length c0_1)] 29 (0, 0))) ∧ Aside0 (Below w.heap.size w w'))
 case atStart => exact ⟨(y151), (t154), (t157), (true), zs, H', ⟨Nat.le_refl _⟩, ⟨zPM HO153.out (fun _ hk => ⟨hk.1.2, hk.2⟩)⟩, ⟨zPM HO156.out (fun _ hk => ⟨hk.1.2, hk.2⟩)⟩, ⟨zPM HO159.out (fun _ hk => ⟨hk.1.2, hk.2⟩)⟩, ⟨zR BK150.out⟩, ⟨zT HB.out GE150.out⟩⟩
 case round =>
  clear H'
  try clear c1
  try clear c2
  try clear c8
  obtain ⟨x7_1, x8_1, x9_1, x10_1, rfl, HA, HK1, HO_7, HO_8, HO_9, BK150, HB⟩ := hrel
  cases gk with
  | zero => exact absurd HA.out (by simp [spec_l05Meet.l0])
  | succ k1 =>
   have H := HA.out
   clear HA
   simp only [spec_l05Meet.l0] at H
   by_cases c11 : x10_1 = true
   ·subst c11
    rw [if_pos rfl] at H
    have H' := zA H
    clear H
    go_wp2
    go_loopg [7, 8, 9, 10, 11] k1 (fun kq v7 v8 v9 v10 v11 w' => ∃ (x7_2 : List Int) (x8_2 : List Int) (x9_2 : List Int) (x10_2 : Bool) (x11_2 : Int), v10 = .bool x10_2 ∧ v11 = .int .i64 x11_2 ∧ Aside0 (spec_l05Meet.l1 kq x7_2 x8_2 x9_2 x10_2 x11_2 a0_0 l0_1 = some r) ∧ Aside0 (kq ≤ k1) ∧ Aside0 (Kd.R (Kd.int .i64) 2 w' w.heap.size (fun k_ => some k_ ≠ (v8 : Value).ownBlock ∧ some k_ ≠ (v9 : Value).ownBlock) v7 x7_2) ∧ Aside0 (Kd.R (Kd.int .i64) 2 w' w.heap.size (fun k_ => some k_ ≠ (v7 : Value).ownBlock ∧ some k_ ≠ (v9 : Value).ownBlock) v8 x8_2) ∧ Aside0 (Kd.R (Kd.int .i64) 2 w' w.heap.size (fun k_ => some k_ ≠ (v7 : Value).ownBlock ∧ some k_ ≠ (v8 : Value).ownBlock) v9 x9_2) ∧ Aside0 (w'.heap[gb150]? = some (.cells #[.int .i64 a0_0, (.slice A0_1 l0_1.length c0_1)] 29 (0, 0))) ∧ Aside0 (Below w.heap.size w w'))
    case atStart => exact ⟨(x7_1), (x8_1), (x9_1), (false), (0), zs, zs, H', ⟨Nat.le_refl _⟩, ⟨zP HO_7.out⟩, ⟨zP HO_8.out⟩, ⟨zP HO_9.out⟩, ⟨zR BK150.out⟩, ⟨zT HB.out GE150.out⟩⟩
    case round =>
     clear H'
     try clear c1
     try clear c2
     try clear c8
     try clear c11
     obtain ⟨x7_2, x8_2, x9_2, x10_2, x11_2, rfl, rfl, HA, HK2, HO_7, HO_8, HO_9, BK150, HB⟩ := hrel
     cases gk with
     | zero => exact absurd HA.out (by simp [spec_l05Meet.l1])
     | succ k2 =>
      have H := HA.out
      clear HA
      simp only [spec_l05Meet.l1] at H
      by_cases c12 : x11_2 < a0_0
      ·rw [if_pos c12] at H
       have c12b0 : decide (x11_2 < a0_0) = true := decide_eq_true c12
       clear c12
       obtain ⟨t160, A13, H⟩ := zb H
       try dsimp only at H
       obtain ⟨t161, A14, H⟩ := zb H
       try dsimp only at H
       have HC15 := zA H
       clear H
       obtain ⟨hcz16_0, hcz16_1, hfz16_0, hfz16_1⟩ := zB3 BK150.out
       try go_wp2
       replace HO_7 := zA (zH HO_7.out)
       replace HO_8 := zA (zH HO_8.out)
       replace HO_9 := zA (zH HO_9.out)
       replace BK150 := zA (zK BK150.out)
       replace HB := zA (zD HB.out)
       obtain ⟨Ao18, co18, eo18⟩ := kM HO_8.out
       (first | subst eo18 | (injection eo18 with f1_ f2_ f3_; have f4_ := f1_.symm; have f5_ := f3_.symm; clear f1_ f2_ f3_; subst f4_; subst f5_))
       refine start_ (n := 10) (S := fun w' => w'.cell? ⟨gb150, 0, none⟩ = some (.int .i64 a0_0) ∧ w'.cell? ⟨gb150, 1, none⟩ = some (.slice A0_1 l0_1.length c0_1)) (ds := []) #[false, false, false, false, false, false, false, false, false, false] (by kernel_rfl) rfl rfl ⟨(kV BK150.out 0).trans rfl, (kV BK150.out 1).trans rfl⟩ (fun hHeld => ?_); refine with_tabW spec_l05Meet.tab8 spec_l05Meet.bits8 (fun HT_ HW_ => ?_)
       generalize wr.drew = w17 at HO_7 HO_8 HO_9 BK150 HB hHeld ⊢
       refine zp 1 (some 27) #[false, true, false, false, false, false, false, false, false, false] HT_.out ?_
       refine zp 2 (some 28) #[false, true, true, false, false, false, false, false, false, false] HT_.out ?_
       refine zp 5 (some 31) #[false, true, true, false, false, true, false, false, false, false] HT_.out ?_
       refine zp 6 (some 32) #[false, true, true, false, false, true, true, false, false, false] HT_.out ?_
       refine zc 0 (some 26) #[true, true, true, false, false, true, true, false, false, false] HT_.out HW_.out hHeld ?_
       refine zc 4 (some 30) #[true, true, true, false, true, true, true, false, false, false] HT_.out HW_.out hHeld ?_
       refine one_ (i := 3) (N := some 29) #[true, true, true, true, true, true, true, false, false, false] rfl rfl (one_of HT_.out (by kernel_rfl)) (by decide) (fun K hK => ?_)
       refine goes_ Tryd.func153 (by kernel_rfl) rfl #[.agg #[.int .i64 a0_0, .slice A0_1 l0_1.length c0_1], .slice Ao18 x8_2.length co18, .int .i64 x11_2] (by rfl) rfl rfl zg ?_
       with_reducible refine (spec_l03First.calls k2 a0_0 _ _ l0_1 _ _ x8_2 x11_2 t160 _ ?side1 ?side2 ?side3 ?side4 A13.out).mono ?_
       (case side1 => exact zS (kO HR0_1.out HB.out))
       (case side2 => exact HC0_1.out)
       (case side3 => exact zS (kB HO_8.out).2.2)
       (case side4 => exact (kB HO_8.out).2.1)
       rintro e w19 ⟨rfl, hb⟩
       refine ⟨_, rfl, ?_⟩
       replace HO_7 := zA (kL (zP HO_7.out) hb)
       replace HO_8 := zA (kL (zP HO_8.out) hb)
       replace HO_9 := zA (kL (zP HO_9.out) hb)
       replace BK150 := zA (zB1 BK150.out hb)
       replace HB := zA (kQ (zT HB.out GE150.out) hb)
       (try clear hb)
       (try clear hb2)
       (try clear hk)
       (try clear hi)
       (try clear hgw)
       obtain ⟨Ao20, co20, eo20⟩ := kM HO_9.out
       (first | subst eo20 | (injection eo20 with f1_ f2_ f3_; have f4_ := f1_.symm; have f5_ := f3_.symm; clear f1_ f2_ f3_; subst f4_; subst f5_))
       refine hK.out _ _ ⟨(kV BK150.out 0).trans rfl, (kV BK150.out 1).trans rfl⟩ (fun hHeld => ?_)
       clear hK K
       refine norm_ (a' := ?_) ?_ ?_
       rotate_left
       ·show Act.put _ (some 29) _ = _
        simp only [Act.put, zL, zM, zN, i64_w, i32_w]
        rfl
       refine one_ (i := 7) (N := some 33) #[true, true, true, true, true, true, true, true, false, false] rfl rfl (one_of HT_.out (by kernel_rfl)) (by decide) (fun K hK => ?_)
       refine goes_ Tryd.func153 (by kernel_rfl) rfl #[.agg #[.int .i64 a0_0, .slice A0_1 l0_1.length c0_1], .slice Ao20 x9_2.length co20, .int .i64 x11_2] (by rfl) rfl rfl zg ?_
       with_reducible refine (spec_l03First.calls k2 a0_0 _ _ l0_1 _ _ x9_2 x11_2 t161 _ ?side1 ?side2 ?side3 ?side4 A14.out).mono ?_
       (case side1 => exact zS (kO HR0_1.out HB.out))
       (case side2 => exact HC0_1.out)
       (case side3 => exact zS (kB HO_9.out).2.2)
       (case side4 => exact (kB HO_9.out).2.1)
       rintro e w21 ⟨rfl, hb⟩
       refine ⟨_, rfl, ?_⟩
       replace HO_7 := zA (kL (zP HO_7.out) hb)
       replace HO_8 := zA (kL (zP HO_8.out) hb)
       replace HO_9 := zA (kL (zP HO_9.out) hb)
       replace BK150 := zA (zB1 BK150.out hb)
       replace HB := zA (kQ (zT HB.out GE150.out) hb)
       (try clear hb)
       (try clear hb2)
       (try clear hk)
       (try clear hi)
       (try clear hgw)
       refine hK.out _ _ ⟨(kV BK150.out 0).trans rfl, (kV BK150.out 1).trans rfl⟩ (fun hHeld => ?_)
       clear hK K
       refine norm_ (a' := ?_) ?_ ?_
       rotate_left
       ·show Act.put _ (some 33) _ = _
        simp only [Act.put, zL, zM, zN, i64_w, i32_w]
        rfl
       refine zp 8 (some 12) #[true, true, true, true, true, true, true, true, true, false] HT_.out ?_
       refine zp 9 (some 13) #[true, true, true, true, true, true, true, true, true, true] HT_.out ?_
       refine done_ (done_of HT_.out (by kernel_rfl)) ?_
       go_upto_region 9 with (fail)
       go_cut [39] (fun v39 wc => ∃ (kq : Nat) (x39_14 : Bool), v39 = .bool x39_14 ∧ Aside0 (spec_l05Meet.j2 kq x7_2 x8_2 x9_2 x10_2 x11_2 t160 t161 x39_14 a0_0 l0_1 = some r) ∧ Aside0 (kq ≤ k2) ∧ Aside0 (Kd.R (Kd.int .i64) 2 wc w.heap.size (fun k_ => some k_ ≠ ((.slice Ao18 x8_2.length co18) : Value).ownBlock ∧ some k_ ≠ ((.slice Ao20 x9_2.length co20) : Value).ownBlock) u7 x7_2) ∧ Aside0 (Kd.R (Kd.int .i64) 2 wc w.heap.size (fun k_ => some k_ ≠ (u7 : Value).ownBlock ∧ some k_ ≠ ((.slice Ao20 x9_2.length co20) : Value).ownBlock) (.slice Ao18 x8_2.length co18) x8_2) ∧ Aside0 (Kd.R (Kd.int .i64) 2 wc w.heap.size (fun k_ => some k_ ≠ (u7 : Value).ownBlock ∧ some k_ ≠ ((.slice Ao18 x8_2.length co18) : Value).ownBlock) (.slice Ao20 x9_2.length co20) x9_2) ∧ Aside0 (wc.heap[gb150]? = some (.cells #[.int .i64 a0_0, (.slice A0_1 l0_1.length c0_1)] 29 (0, 0))) ∧ Aside0 (Below w.heap.size w wc))
       case first =>
        have H := HC15.out
        clear HC15
        by_cases c22 : t160 ≥ 0
        ·rw [if_pos c22] at H
         have c22b0 : decide (0 ≤ t160) = true := decide_eq_true c22
         clear c22
         (first | rw [c22b0] | (simp only [i64_w, i32_w]; rw [c22b0]) | skip)
         have H' := zA H
         clear H
         go_wp2
         go_meet
         case rel => exact ⟨_, (decide (t161 ≥ 0)), zs, H', ⟨by have := HK1.out; have := HK2.out; first | omega | exact Nat.le_refl _⟩, ⟨zP HO_7.out⟩, ⟨zP HO_8.out⟩, ⟨zP HO_9.out⟩, ⟨zR BK150.out⟩, ⟨zT HB.out GE150.out⟩⟩
        rw [if_neg c22] at H
        have c22b0 : decide (0 ≤ t160) = false := decide_eq_false c22
        clear c22
        (first | rw [c22b0] | (simp only [i64_w, i32_w]; rw [c22b0]) | skip)
        have H' := zA H
        clear H
        go_wp2
        go_meet
        case rel => exact ⟨_, (false), zs, H', ⟨by have := HK1.out; have := HK2.out; first | omega | exact Nat.le_refl _⟩, ⟨zP HO_7.out⟩, ⟨zP HO_8.out⟩, ⟨zP HO_9.out⟩, ⟨zR BK150.out⟩, ⟨zT HB.out GE150.out⟩⟩
       case rest =>
        clear HC15
        try clear c1
        try clear c2
        try clear c8
        try clear c11
        try clear c12
        try clear c15
        try clear c22
        try clear hcz16_0
        try clear hcz16_1
        try clear hfz16_0
        try clear hfz16_1
        obtain ⟨kq, x39_14, rfl, HA, HJ14, HO_7, HO_8, HO_9, BK150, HB⟩ := hcut
        cases kq with
        | zero => exact absurd HA.out (by simp [spec_l05Meet.j2])
        | succ kj14 =>
         have H := HA.out
         clear HA
         simp only [spec_l05Meet.j2] at H
         by_cases c23 : x39_14 = true
         ·subst c23
          rw [if_pos rfl] at H
          by_cases c24 : x7_2.length < 17592186044416
          ·rw [if_pos c24] at H
           have LMc24 := zA c24
           clear c24
           obtain ⟨y162, hy162⟩ : ∃ y_ : List Int, y_ = (x7_2 ++ [x11_2]) := ⟨_, rfl⟩
           replace H : ((spec_l03Without.f x8_2 t160).bind fun t165 => ((spec_l03Without.f x9_2 t161).bind fun t168 => (spec_l05Meet.l1 kj14 y162 t165 t168 true (wrap64 (x11_2 + 1)) a0_0 l0_1))) = some r := zy hy162 H
           have Ny162 := zA hy162
           clear hy162
           obtain ⟨t165, A25, H⟩ := zb H
           try dsimp only at H
           obtain ⟨t168, A26, H⟩ := zb H
           try dsimp only at H
           have H' := zA H
           clear H
           go_wp2_with (first | ((with_reducible refine gate_builtin (b := .append) (xs := #[.tmp 40, .tmp 42]) rfl ?_); at_builtin; refine Kd.R_append (Kd.int .i64) (w0 := w) w.heap.size rfl (.tmp 40) (.tmp 42) 22 2 (.int .i64 0) 8 rfl Tryd.underlying22 info2 rfl (by decide) (by omega) u7 x7_2 x11_2 [.int .i64 x11_2] (fun k_ => some k_ ≠ (.slice Ao18 x8_2.length co18 : Value).ownBlock ∧ some k_ ≠ (.slice Ao20 x9_2.length co20 : Value).ownBlock) (fun _ => False) rfl rfl ?aP (fun _ hk => hk.elim) ?aF ?aO ?aB ?aS ?aL ?_; (case aP => exact rfl); (case aB => exact (zT HB.out GE150.out)); (case aF => exact (fun k_ hk => ⟨jF (kH (zP HO_8.out)) k_ hk, jF (kH (zP HO_9.out)) k_ hk⟩)); (case aO => exact (zP HO_7.out)); (case aS => exact (kP (zT HB.out GE150.out))); (case aL => have := LMc24.out; omega); intro v163 w27 ho hb hg hat; rw [← Ny162.out] at ho; replace HO_8 := zA (Kd.R_after (ok := (fun k_ => some k_ ≠ (.slice Ao20 x9_2.length co20 : Value).ownBlock)) (by (with_reducible repeat (first | apply zF | apply zG | apply zH)); exact kA HO_8.out (fun _ hk => ⟨hk.2, hk.1⟩)) hg hat); replace HO_9 := zA (Kd.R_after (ok := (fun k_ => some k_ ≠ (.slice Ao18 x8_2.length co18 : Value).ownBlock)) (by (with_reducible repeat (first | apply zF | apply zG | apply zH)); exact kA HO_9.out (fun _ hk => ⟨hk.2, hk.1⟩)) hg hat); replace BK150 := zA (blk_grown (g := gb150) (o := .cells #[.int .i64 a0_0, .slice A0_1 l0_1.length c0_1] 29 (0, 0)) (zR BK150.out) hg (Kd.R_ne HO_7.out BK150.out (by decide))); replace HB := zA (hb); have HO164 := zA (ho); clear HO_7; clear ho hb hg hat) | (refine zO (some 46) Tryd.func154 #[.slice Ao18 x8_2.length co18, .int .i64 t160] ?_; (with_reducible refine (spec_l03Without.calls _ _ x8_2 t160 t165 _ ?side1 ?side2 A25.out).mono ?_); (case side1 => exact zS (kB HO_8.out).2.2); (case side2 => exact (kB HO_8.out).2.1); rintro e w28 ⟨v166, rfl, ho0, hb⟩; refine ⟨_, rfl, ?_⟩; have HO167 := zA (kI (kF (kF (kF ho0 (kH (zP HO_8.out))) (kH (zP HO_9.out))) (kH (zP HO164.out))) (kP (zT HB.out GE150.out))); replace HO_8 := zA (kE (zP HO_8.out) (kC ho0) hb); replace HO_9 := zA (kE (zP HO_9.out) (kC ho0) hb); replace HO164 := zA (kE (zP HO164.out) (kC ho0) hb); replace BK150 := zA (zB1 BK150.out hb); replace HB := zA (kQ (zT HB.out GE150.out) hb); (try clear hb); (try clear ho0)) | (refine zO (some 49) Tryd.func154 #[.slice Ao20 x9_2.length co20, .int .i64 t161] ?_; (with_reducible refine (spec_l03Without.calls _ _ x9_2 t161 t168 _ ?side1 ?side2 A26.out).mono ?_); (case side1 => exact zS (kB HO_9.out).2.2); (case side2 => exact (kB HO_9.out).2.1); rintro e w29 ⟨v169, rfl, ho0, hb⟩; refine ⟨_, rfl, ?_⟩; have HO170 := zA (kI (kF (kF (kF (kF ho0 (kH (zP HO_8.out))) (kH (zP HO_9.out))) (kH (zP HO164.out))) (kH (zP HO167.out))) (kP (zT HB.out GE150.out))); replace HO_8 := zA (kE (zP HO_8.out) (kC ho0) hb); replace HO_9 := zA (kE (zP HO_9.out) (kC ho0) hb); replace HO164 := zA (kE (zP HO164.out) (kC ho0) hb); replace HO167 := zA (kE (zP HO167.out) (kC ho0) hb); replace BK150 := zA (zB1 BK150.out hb); replace HB := zA (kQ (zT HB.out GE150.out) hb); (try clear hb); (try clear ho0)))
           go_roundg kj14
           case measure => have := HK1.out; have := HK2.out; have := HJ14.out; omega
           case rel => exact ⟨(y162), (t165), (t168), (true), (wrap64 (x11_2 + 1)), zs, zs, H', ⟨by have := HK1.out; have := HK2.out; have := HJ14.out; omega⟩, ⟨zPM HO164.out (fun _ hk => ⟨hk.1.2, hk.2⟩)⟩, ⟨zPM HO167.out (fun _ hk => ⟨hk.1.2, hk.2⟩)⟩, ⟨zPM HO170.out (fun _ hk => ⟨hk.1.2, hk.2⟩)⟩, ⟨zR BK150.out⟩, ⟨zT HB.out GE150.out⟩⟩
          rw [if_neg c24] at H
          exact absurd H (by simp)
         replace c23 := Bool.eq_false_iff.mpr c23
         subst c23
         rw [if_neg (show ¬ (false = true) by decide)] at H
         have H' := zA H
         clear H
         go_wp2
         go_roundg kj14
         case measure => have := HK1.out; have := HK2.out; have := HJ14.out; omega
         case rel => exact ⟨(x7_2), (x8_2), (x9_2), (x10_2), (wrap64 (x11_2 + 1)), zs, zs, H', ⟨by have := HK1.out; have := HK2.out; have := HJ14.out; omega⟩, ⟨zP HO_7.out⟩, ⟨zP HO_8.out⟩, ⟨zP HO_9.out⟩, ⟨zR BK150.out⟩, ⟨zT HB.out GE150.out⟩⟩
      rw [if_neg c12] at H
      have c12b0 : decide (x11_2 < a0_0) = false := decide_eq_false c12
      clear c12
      have H' := zA H
      clear H
      obtain ⟨hcz30_0, hcz30_1, hfz30_0, hfz30_1⟩ := zB3 BK150.out
      go_wp2
      go_roundg k2
      case measure => have := HK1.out; have := HK2.out; omega
      case rel => exact ⟨(x7_2), (x8_2), (x9_2), (x10_2), zs, H', ⟨by have := HK1.out; have := HK2.out; omega⟩, ⟨zP HO_7.out⟩, ⟨zP HO_8.out⟩, ⟨zP HO_9.out⟩, ⟨zR BK150.out⟩, ⟨zT HB.out GE150.out⟩⟩
   replace c11 := Bool.eq_false_iff.mpr c11
   subst c11
   rw [if_neg (show ¬ (false = true) by decide)] at H
   obtain rfl := Option.some.inj H
   go_wp2
   go_ret
   exact ⟨_, zr, by (with_reducible repeat (first | apply zF | apply zG | apply zH)); exact kA HO_7.out (fun _ hk => trivial), zT HB.out GE150.out⟩

/-! ### spec_l05Cut: function 82 -/
def spec_l05Cut.l0 : Nat → List Int → List Int → Int → Int → List Int → Option (List Int × Bool)
 | 0, _, _, _, _, _ => none
 | k + 1, x1, x8, x9, x172000, x172001 => if x9 < (x1.length : Int) then (if 0 ≤ x9 then ((spec_l03First.f k x172000 x172001 x8 (rd x1 x9)).bind fun t176 => (if t176 < 0 then (some (([] : List Int), false)) else ((spec_l03Without.f x8 t176).bind fun t177 => (spec_l05Cut.l0 k x1 t177 (wrap64 (x9 + 1)) x172000 x172001)))) else (none)) else (some (x8, true))
def spec_l05Cut.f (k : Nat) (a0_0 : Int) (l0_1 : List Int) (l1 : List Int) (l2 : List Int) : Option (List Int × Bool) := (spec_l01Own.f l2).bind fun t172 => (spec_l05Cut.l0 k l1 t172 0 a0_0 l0_1)

def spec_l05Cut.T5 : Bool × List (List Nat × List Nat) := (true, [([], []), ([], []), ([], []), ([], []), ([2, 3], [2, 3]), ([4], [4]), ([0, 1, 5], [0, 1, 5]), ([6, 6, 0, 1, 2, 3, 4, 5, 6], [6])])
def spec_l05Cut.B5 : List Nat := [0, 0, 0, 0, 12, 28, 63, 127]
theorem spec_l05Cut.tab5 : rtab .any (opsOf Tryd.f82 5) = spec_l05Cut.T5 := by kernel_rfl
theorem spec_l05Cut.bits5 : waitsOk spec_l05Cut.T5.2 spec_l05Cut.B5 = true := by kernel_rfl
set_option maxHeartbeats 8000000 in
set_option maxRecDepth 100000 in
theorem spec_l05Cut.calls (k : Nat) (a0_0 : Int) (A0_1 : Option Addr) (c0_1 : Nat) (l0_1 : List Int) (A1 : Option Addr) (c1 : Nat) (l1 : List Int) (A2 : Option Addr) (c2 : Nat) (l2 : List Int) (r1 : List Int) (r2 : Bool) (w : World) (hr0_1 : Kd.C (Kd.int .i64) w A0_1 l0_1.length l0_1) (hc0_1 : l0_1.length ≤ c0_1) (hr1 : Kd.C (Kd.int .i64) w A1 l1.length l1) (hc1 : l1.length ≤ c1) (hr2 : Kd.C (Kd.int .i64) w A2 l2.length l2) (hc2 : l2.length ≤ c2) (h : spec_l05Cut.f k a0_0 l0_1 l1 l2 = some (r1, r2)) :
  Calls Tryd.prog 82 #[.agg #[.int .i64 a0_0, .slice A0_1 l0_1.length c0_1], .slice A1 l1.length c1, .slice A2 l2.length c2] w fun e w' => ∃ v0_ : Value, e = .returned (.tuple #[v0_, .bool r2]) ∧ Kd.R (Kd.int .i64) 2 w' w.heap.size (fun _ => True) v0_ r1 ∧ Below w.heap.size w w' := by
 have hu29 := Tryd.underlying29
 have HR0_1 := zA hr0_1
 have HC0_1 := zA hc0_1
 clear hr0_1 hc0_1
 have HR1 := zA hr1
 have HC1 := zA hc1
 clear hr1 hc1
 have HR2 := zA hr2
 have HC2 := zA hc2
 clear hr2 hc2
 have HB := zA (kW w.heap.size w)
 have H := h
 unfold spec_l05Cut.f at H
 clear h
 obtain ⟨t172, A4, H⟩ := zb H
 try dsimp only at H
 have H' := zA H
 clear H
 go_enter Tryd.func82, Tryd.ntmps82
 go_wp2_with (first | (refine zBE 3 #[.int .i64 a0_0, .slice A0_1 l0_1.length c0_1] 29 ?_; intro gb171 hg w5 hbox hb; have BK171 := zA (hbox); have GW171 := zA (zBH hg HB.out); have GE171 := zA (zBH hg HB.out); replace HB := zA (kQ (zQ HB.out) hb); clear hb hbox hg) | (refine zO (some 12) Tryd.func80 #[.slice A2 l2.length c2] ?_; (with_reducible refine (spec_l01Own.calls _ _ l2 t172 _ ?side1 ?side2 A4.out).mono ?_); (case side1 => exact zS (kO HR2.out HB.out)); (case side2 => exact HC2.out); rintro e w6 ⟨v173, rfl, ho0, hb⟩; refine ⟨_, rfl, ?_⟩; have HO174 := zA (kI ho0 (kP (zT HB.out GE171.out))); replace BK171 := zA (zB1 BK171.out hb); replace HB := zA (kQ (zT HB.out GE171.out) hb); (try clear hb); (try clear ho0)))
 go_loopg [8, 9] k (fun kq v8 v9 w' => ∃ (x8_1 : List Int) (x9_1 : Int), v9 = .int .i64 x9_1 ∧ Aside0 (spec_l05Cut.l0 kq l1 x8_1 x9_1 a0_0 l0_1 = some (r1, r2)) ∧ Aside0 (kq ≤ k) ∧ Aside0 (Kd.R (Kd.int .i64) 2 w' w.heap.size (fun _ => True) v8 x8_1) ∧ Aside0 (w'.heap[gb171]? = some (.cells #[.int .i64 a0_0, (.slice A0_1 l0_1.length c0_1)] 29 (0, 0))) ∧ Aside0 (Below w.heap.size w w'))
 case atStart => exact ⟨(t172), (0), zs, H', ⟨Nat.le_refl _⟩, ⟨zP HO174.out⟩, ⟨zR BK171.out⟩, ⟨zT HB.out GE171.out⟩⟩
 case round =>
  clear H'
  try clear c1
  try clear c2
  obtain ⟨x8_1, x9_1, rfl, HA, HK1, HO_8, BK171, HB⟩ := hrel
  cases gk with
  | zero => exact absurd HA.out (by simp [spec_l05Cut.l0])
  | succ k1 =>
   have H := HA.out
   clear HA
   simp only [spec_l05Cut.l0] at H
   by_cases c7 : x9_1 < (l1.length : Int)
   ·rw [if_pos c7] at H
    have c7b0 : decide (x9_1 < (l1.length : Int)) = true := decide_eq_true c7
    clear c7
    by_cases c8 : 0 ≤ x9_1
    ·rw [if_pos c8] at H
     have c8b0 : decide (0 ≤ x9_1) = true := decide_eq_true c8
     clear c8
     obtain ⟨t176, A9, H⟩ := zb H
     try dsimp only at H
     by_cases c10 : t176 < 0
     ·rw [if_pos c10] at H
      have c10b0 : decide (t176 < 0) = true := decide_eq_true c10
      clear c10
      simp only [Option.some.injEq, Prod.mk.injEq] at H
      obtain ⟨rfl, rfl⟩ := H
      try go_wp2
      replace HO_8 := zA (zH HO_8.out)
      replace BK171 := zA (zK BK171.out)
      replace HB := zA (zD HB.out)
      have p175 : 0 ≤ (x9_1 : Int) := zd
      have q175 : x9_1 < (l1.length : Int) := zd
      obtain ⟨ad175, e175, hx175_0⟩ := Kd.at_int HR1.out x9_1 p175 q175
      have hw175_0 := hx175_0
      cases e175
      replace hx175_0 := (HB.out.cell (jG w _ hx175_0)).trans hx175_0
      replace p175 := eq_true p175
      replace q175 := eq_true q175
      obtain ⟨Ao12, co12, eo12⟩ := kM HO_8.out
      (first | subst eo12 | (injection eo12 with f1_ f2_ f3_; have f4_ := f1_.symm; have f5_ := f3_.symm; clear f1_ f2_ f3_; subst f4_; subst f5_))
      refine start_ (n := 8) (S := fun w' => w'.cell? ⟨gb171, 0, none⟩ = some (.int .i64 a0_0) ∧ w'.cell? ⟨gb171, 1, none⟩ = some (.slice A0_1 l0_1.length c0_1) ∧ w'.cell? (ad175.add (x9_1).toNat) = some (.int .i64 (rd l1 x9_1))) (ds := []) #[false, false, false, false, false, false, false, false] (by kernel_rfl) rfl rfl ⟨(kV BK171.out 0).trans rfl, (kV BK171.out 1).trans rfl, (pw_cell_below HB.out hw175_0)⟩ (fun hHeld => ?_); refine with_tabW spec_l05Cut.tab5 spec_l05Cut.bits5 (fun HT_ HW_ => ?_)
      generalize wr.drew = w11 at HO_8 BK171 HB hx175_0 hHeld ⊢
      refine zp 1 (some 20) #[false, true, false, false, false, false, false, false] HT_.out ?_
      refine zp 2 (some 21) #[false, true, true, false, false, false, false, false] HT_.out ?_
      refine zp 3 (some 22) #[false, true, true, true, false, false, false, false] HT_.out ?_
      refine zp 4 (some 23) #[false, true, true, true, true, false, false, false] HT_.out ?_
      refine ze 0 (some 19) #[true, true, true, true, true, false, false, false] HT_.out HW_.out hHeld ?_
      refine ze 5 (some 24) #[true, true, true, true, true, true, false, false] HT_.out HW_.out hHeld ?_
      refine one_ (i := 6) (N := some 25) #[true, true, true, true, true, true, true, false] rfl rfl (one_of HT_.out (by kernel_rfl)) (by decide) (fun K hK => ?_)
      refine goes_ Tryd.func153 (by kernel_rfl) rfl #[.agg #[.int .i64 a0_0, .slice A0_1 l0_1.length c0_1], .slice Ao12 x8_1.length co12, .int .i64 (rd l1 x9_1)] (by rfl) rfl rfl zg ?_
      with_reducible refine (spec_l03First.calls k1 a0_0 _ _ l0_1 _ _ x8_1 (rd l1 x9_1) t176 _ ?side1 ?side2 ?side3 ?side4 A9.out).mono ?_
      (case side1 => exact zS (kO HR0_1.out HB.out))
      (case side2 => exact HC0_1.out)
      (case side3 => exact zS (kB HO_8.out).2.2)
      (case side4 => exact (kB HO_8.out).2.1)
      rintro e w13 ⟨rfl, hb⟩
      refine ⟨_, rfl, ?_⟩
      replace HO_8 := zA (kL (zP HO_8.out) hb)
      replace BK171 := zA (zB1 BK171.out hb)
      replace HB := zA (kQ (zT HB.out GE171.out) hb)
      (try clear hb)
      (try clear hb2)
      (try clear hk)
      (try clear hi)
      (try clear hgw)
      refine hK.out _ _ ⟨(kV BK171.out 0).trans rfl, (kV BK171.out 1).trans rfl, (pw_cell_below HB.out hw175_0)⟩ (fun hHeld => ?_)
      clear hK K
      refine norm_ (a' := ?_) ?_ ?_
      rotate_left
      ·show Act.put _ (some 25) _ = _
       simp only [Act.put, zL, zM, zN, i64_w, i32_w]
       rfl
      refine zp 7 (some 10) #[true, true, true, true, true, true, true, true] HT_.out ?_
      refine done_ (done_of HT_.out (by kernel_rfl)) ?_
      try go_wp2
      go_ret2
      exact ⟨_, zr, zn, zT HB.out GE171.out⟩
     rw [if_neg c10] at H
     have c10b0 : decide (t176 < 0) = false := decide_eq_false c10
     clear c10
     obtain ⟨t177, A14, H⟩ := zb H
     try dsimp only at H
     have H' := zA H
     clear H
     try go_wp2
     replace HO_8 := zA (zH HO_8.out)
     replace BK171 := zA (zK BK171.out)
     replace HB := zA (zD HB.out)
     have p175 : 0 ≤ (x9_1 : Int) := zd
     have q175 : x9_1 < (l1.length : Int) := zd
     obtain ⟨ad175, e175, hx175_0⟩ := Kd.at_int HR1.out x9_1 p175 q175
     have hw175_0 := hx175_0
     cases e175
     replace hx175_0 := (HB.out.cell (jG w _ hx175_0)).trans hx175_0
     replace p175 := eq_true p175
     replace q175 := eq_true q175
     obtain ⟨Ao16, co16, eo16⟩ := kM HO_8.out
     (first | subst eo16 | (injection eo16 with f1_ f2_ f3_; have f4_ := f1_.symm; have f5_ := f3_.symm; clear f1_ f2_ f3_; subst f4_; subst f5_))
     refine start_ (n := 8) (S := fun w' => w'.cell? ⟨gb171, 0, none⟩ = some (.int .i64 a0_0) ∧ w'.cell? ⟨gb171, 1, none⟩ = some (.slice A0_1 l0_1.length c0_1) ∧ w'.cell? (ad175.add (x9_1).toNat) = some (.int .i64 (rd l1 x9_1))) (ds := []) #[false, false, false, false, false, false, false, false] (by kernel_rfl) rfl rfl ⟨(kV BK171.out 0).trans rfl, (kV BK171.out 1).trans rfl, (pw_cell_below HB.out hw175_0)⟩ (fun hHeld => ?_); refine with_tabW spec_l05Cut.tab5 spec_l05Cut.bits5 (fun HT_ HW_ => ?_)
     generalize wr.drew = w15 at HO_8 BK171 HB hx175_0 hHeld ⊢
     refine zp 1 (some 20) #[false, true, false, false, false, false, false, false] HT_.out ?_
     refine zp 2 (some 21) #[false, true, true, false, false, false, false, false] HT_.out ?_
     refine zp 3 (some 22) #[false, true, true, true, false, false, false, false] HT_.out ?_
     refine zp 4 (some 23) #[false, true, true, true, true, false, false, false] HT_.out ?_
     refine ze 0 (some 19) #[true, true, true, true, true, false, false, false] HT_.out HW_.out hHeld ?_
     refine ze 5 (some 24) #[true, true, true, true, true, true, false, false] HT_.out HW_.out hHeld ?_
     refine one_ (i := 6) (N := some 25) #[true, true, true, true, true, true, true, false] rfl rfl (one_of HT_.out (by kernel_rfl)) (by decide) (fun K hK => ?_)
     refine goes_ Tryd.func153 (by kernel_rfl) rfl #[.agg #[.int .i64 a0_0, .slice A0_1 l0_1.length c0_1], .slice Ao16 x8_1.length co16, .int .i64 (rd l1 x9_1)] (by rfl) rfl rfl zg ?_
     with_reducible refine (spec_l03First.calls k1 a0_0 _ _ l0_1 _ _ x8_1 (rd l1 x9_1) t176 _ ?side1 ?side2 ?side3 ?side4 A9.out).mono ?_
     (case side1 => exact zS (kO HR0_1.out HB.out))
     (case side2 => exact HC0_1.out)
     (case side3 => exact zS (kB HO_8.out).2.2)
     (case side4 => exact (kB HO_8.out).2.1)
     rintro e w17 ⟨rfl, hb⟩
     refine ⟨_, rfl, ?_⟩
     replace HO_8 := zA (kL (zP HO_8.out) hb)
     replace BK171 := zA (zB1 BK171.out hb)
     replace HB := zA (kQ (zT HB.out GE171.out) hb)
     (try clear hb)
     (try clear hb2)
     (try clear hk)
     (try clear hi)
     (try clear hgw)
     refine hK.out _ _ ⟨(kV BK171.out 0).trans rfl, (kV BK171.out 1).trans rfl, (pw_cell_below HB.out hw175_0)⟩ (fun hHeld => ?_)
     clear hK K
     refine norm_ (a' := ?_) ?_ ?_
     rotate_left
     ·show Act.put _ (some 25) _ = _
      simp only [Act.put, zL, zM, zN, i64_w, i32_w]
      rfl
     refine zp 7 (some 10) #[true, true, true, true, true, true, true, true] HT_.out ?_
     refine done_ (done_of HT_.out (by kernel_rfl)) ?_
     try go_wp2_with (first | (refine zO (some 30) Tryd.func154 #[.slice Ao16 x8_1.length co16, .int .i64 t176] ?_; (with_reducible refine (spec_l03Without.calls _ _ x8_1 t176 t177 _ ?side1 ?side2 A14.out).mono ?_); (case side1 => exact zS (kB HO_8.out).2.2); (case side2 => exact (kB HO_8.out).2.1); rintro e w18 ⟨v178, rfl, ho0, hb⟩; refine ⟨_, rfl, ?_⟩; have HO179 := zA (kI (kF ho0 (kH (zP HO_8.out))) (kP (zT HB.out GE171.out))); replace HO_8 := zA (kE (zP HO_8.out) (kC ho0) hb); replace BK171 := zA (zB1 BK171.out hb); replace HB := zA (kQ (zT HB.out GE171.out) hb); (try clear hb); (try clear ho0)))
     go_roundg k1
     case measure => have := HK1.out; omega
     case rel => exact ⟨(t177), (wrap64 (x9_1 + 1)), zs, H', ⟨by have := HK1.out; omega⟩, ⟨zPM HO179.out (fun _ hk => trivial)⟩, ⟨zR BK171.out⟩, ⟨zT HB.out GE171.out⟩⟩
    rw [if_neg c8] at H
    exact absurd H (by simp)
   rw [if_neg c7] at H
   have c7b0 : decide (x9_1 < (l1.length : Int)) = false := decide_eq_false c7
   clear c7
   simp only [Option.some.injEq, Prod.mk.injEq] at H
   obtain ⟨rfl, rfl⟩ := H
   go_wp2
   go_ret2
   exact ⟨_, zr, zP HO_8.out, zT HB.out GE171.out⟩

/-! ### impl_ties_meet: function 86 -/
def impl_ties_meet.l0 : Nat → List Int → List Int → List Int → List Int → Option (List Int × List Int × List Int)
 | 0, _, _, _, _ => none
 | k + 1, x0, x1, x2, x9 => (impl_ties_firsts.f k x0 x1).bind fun t321 => ((impl_ties_firsts.f k x0 x2).bind fun t322 => (if (Go.bits .and .i64 t321 t322) = 0 then (some (x9, x1, x2)) else ((impl_least.f (Go.bits .and .i64 t321 t322)).bind fun t323 => (if x9.length < 17592186044416 then ((impl_withoutFirst.f k x1 t323).bind fun t327 => ((impl_withoutFirst.f k x2 t323).bind fun t330 => (impl_ties_meet.l0 k x0 t327 t330 (x9 ++ [t323])))) else (none)))))
def impl_ties_meet.f (k : Nat) (l0 : List Int) (l1 : List Int) (l2 : List Int) : Option (List Int × List Int × List Int) := impl_ties_meet.l0 k l0 l1 l2 (([] : List Int))

set_option maxHeartbeats 8000000 in
set_option maxRecDepth 100000 in
theorem impl_ties_meet.calls (k : Nat) (A0 : Option Addr) (c0 : Nat) (l0 : List Int) (P1_ : Nat → Prop) (A1 : Option Addr) (c1 : Nat) (l1 : List Int) (P2_ : Nat → Prop) (A2 : Option Addr) (c2 : Nat) (l2 : List Int) (r1 : List Int) (r2 : List Int) (r3 : List Int) (w : World) (hr0 : Kd.C (Kd.int .i64) w A0 l0.length l0) (hc0 : l0.length ≤ c0) (hs1 : Kd.V (Kd.int .i64) 2 w w.heap.size (fun k_ => P1_ k_) (.slice A1 l1.length c1) l1) (hs2 : Kd.V (Kd.int .i64) 2 w w.heap.size (fun k_ => P2_ k_) (.slice A2 l2.length c2) l2) (hT : TabW w) (h : impl_ties_meet.f k l0 l1 l2 = some (r1, r2, r3)) :
  Calls Tryd.prog 86 #[.slice A0 l0.length c0, .slice A1 l1.length c1, .slice A2 l2.length c2] w fun e w' => ∃ v0_ v1_ v2_ : Value, e = .returned (.tuple #[v0_, v1_, v2_]) ∧ Kd.R (Kd.int .i64) 2 w' w.heap.size (fun k_ => (w.heap.size ≤ k_)) v0_ r1 ∧ Kd.V (Kd.int .i64) 2 w' w.heap.size (fun k_ => ((P1_ k_ ∨ P2_ k_) ∨ w.heap.size ≤ k_) ∧ some k_ ≠ (v0_ : Value).ownBlock) v1_ r2 ∧ Kd.V (Kd.int .i64) 2 w' w.heap.size (fun k_ => ((P1_ k_ ∨ P2_ k_) ∨ w.heap.size ≤ k_) ∧ some k_ ≠ (v0_ : Value).ownBlock) v2_ r3 ∧ Below w.heap.size w w' := by
 have HT := zA hT
 clear hT
 have HR0 := zA hr0
 have HC0 := zA hc0
 clear hr0 hc0
 have HO1 := zA (show Kd.V (Kd.int .i64) 2 w w.heap.size (fun k_ => ((P1_ k_ ∨ P2_ k_) ∨ w.heap.size ≤ k_)) (.slice A1 l1.length c1) l1 from kN hs1 (fun k_ hk => .inl (.inl hk)))
 have HO2 := zA (show Kd.V (Kd.int .i64) 2 w w.heap.size (fun k_ => ((P1_ k_ ∨ P2_ k_) ∨ w.heap.size ≤ k_)) (.slice A2 l2.length c2) l2 from kN hs2 (fun k_ hk => .inl (.inr hk)))
 have HB := zA (kW w.heap.size w)
 have H := h
 unfold impl_ties_meet.f at H
 clear h
 obtain ⟨y318, hy318⟩ : ∃ y_ : List Int, y_ = (([] : List Int)) := ⟨_, rfl⟩
 replace H : (impl_ties_meet.l0 k l0 l1 l2 y318) = some (r1, r2, r3) := zy hy318 H
 have Ny318 := zA hy318
 clear hy318
 have H' := zA H
 clear H
 go_enter Tryd.func86, Tryd.ntmps86
 go_wp2_with (first | ((with_reducible refine kS (N := 12) rfl ?_); refine Kd.R_lit (Kd.int .i64) _ 2 ?hg (N := 12) ?hd (xs := ([] : List Int)) (inner := []) (ok := fun _ => True) (okp := fun _ => True) ?hr ?hp (fun _ hk => hk) trivial (kW _ _) (Nat.le_refl _) (by simp) ?_; (case hd => rfl); (case hg => rfl); (case hr => first | (go_simp; done) | (go_simp; rfl)); (case hp => exact (Reps.none _ _)); intro v319 w4 ho5 hb hg_ hnew_; clear hg_ hnew_; (first | rw [← Ny318.out] at ho5 | (simp only [Int.reduceToNat] at ho5; rw [← Ny318.out] at ho5)); replace HO1 := zA (kK (zPV HO1.out) (kC ho5) hb); replace HO2 := zA (kK (zPV HO2.out) (kC ho5) hb); have HO320 := zA (kI (Kd.R_newM (M := fun k_ => (w.heap.size ≤ k_)) ho5 (kP (zQ HB.out)) (fun k_ h_ => h_)) (kP (zQ HB.out))); replace HB := zA (kQ (zQ HB.out) hb); clear hb ho5))
 go_loopg [1, 2, 9] k (fun kq v1 v2 v9 w' => ∃ (x1_1 : List Int) (x2_1 : List Int) (x9_1 : List Int), Aside0 (impl_ties_meet.l0 kq l0 x1_1 x2_1 x9_1 = some (r1, r2, r3)) ∧ Aside0 (kq ≤ k) ∧ Aside0 (Kd.V (Kd.int .i64) 2 w' w.heap.size (fun k_ => ((P1_ k_ ∨ P2_ k_) ∨ w.heap.size ≤ k_) ∧ some k_ ≠ (v9 : Value).ownBlock) v1 x1_1) ∧ Aside0 (Kd.V (Kd.int .i64) 2 w' w.heap.size (fun k_ => ((P1_ k_ ∨ P2_ k_) ∨ w.heap.size ≤ k_) ∧ some k_ ≠ (v9 : Value).ownBlock) v2 x2_1) ∧ Aside0 (Kd.R (Kd.int .i64) 2 w' w.heap.size (fun k_ => (w.heap.size ≤ k_)) v9 x9_1) ∧ Aside0 (Below w.heap.size w w'))
 case atStart => exact ⟨(l1), (l2), (y318), H', ⟨Nat.le_refl _⟩, ⟨zPV HO1.out⟩, ⟨zPV HO2.out⟩, ⟨zPM HO320.out (fun _ hk => hk.1)⟩, ⟨zQ HB.out⟩⟩
 case round =>
  clear H'
  try clear c1
  try clear c2
  obtain ⟨x1_1, x2_1, x9_1, HA, HK1, HO_1, HO_2, HO_9, HB⟩ := hrel
  cases gk with
  | zero => exact absurd HA.out (by simp [impl_ties_meet.l0])
  | succ k1 =>
   have H := HA.out
   clear HA
   simp only [impl_ties_meet.l0] at H
   obtain ⟨t321, A6, H⟩ := zb H
   try dsimp only at H
   obtain ⟨t322, A7, H⟩ := zb H
   try dsimp only at H
   by_cases c8 : (Go.bits .and .i64 t321 t322) = 0
   ·rw [if_pos c8] at H
    obtain ⟨c8b0, c8b1⟩ := zT1 c8
    clear c8
    simp only [Option.some.injEq, Prod.mk.injEq] at H
    obtain ⟨rfl, rfl, rfl⟩ := H
    obtain ⟨Ao9, co9, eo9⟩ := Kd.V_slice HO_1.out
    subst eo9
    go_wp2_with (first | (refine zO (some 15) Tryd.func157 #[.slice A0 l0.length c0, .slice Ao9 x1_1.length co9] ?_; (with_reducible refine (impl_ties_firsts.calls k1 _ _ l0 _ _ x1_1 t321 _ ?side1 ?side2 ?side3 ?side4 A6.out).mono ?_); (case side1 => exact zS (kO HR0.out HB.out)); (case side2 => exact HC0.out); (case side3 => exact zS (kJ HO_1.out).2.2); (case side4 => exact (kJ HO_1.out).2.1); rintro e w' ⟨rfl, ⟨nd, rfl⟩⟩; refine ⟨_, rfl, ?_⟩; obtain ⟨Ao10, co10, eo10⟩ := Kd.V_slice HO_2.out; subst eo10) | (refine zO (some 18) Tryd.func157 #[.slice A0 l0.length c0, .slice Ao10 x2_1.length co10] ?_; (with_reducible refine (impl_ties_firsts.calls k1 _ _ l0 _ _ x2_1 t322 _ ?side1 ?side2 ?side3 ?side4 A7.out).mono ?_); (case side1 => exact zS (kO HR0.out (zQ HB.out))); (case side2 => exact HC0.out); (case side3 => exact zS (kJ HO_2.out).2.2); (case side4 => exact (kJ HO_2.out).2.1); rintro e w' ⟨rfl, ⟨nd, rfl⟩⟩; refine ⟨_, rfl, ?_⟩))
    go_ret3
    exact ⟨_, _, _, zr, zP HO_9.out, by (with_reducible repeat (first | apply Kd.V_alloc | apply Kd.V_drewN | apply Kd.V_drew)); exact HO_1.out, by (with_reducible repeat (first | apply Kd.V_alloc | apply Kd.V_drewN | apply Kd.V_drew)); exact HO_2.out, zQ HB.out⟩
   rw [if_neg c8] at H
   obtain ⟨c8b0, c8b1⟩ := zT2 c8
   obtain ⟨t323, A11, H⟩ := zb H
   try dsimp only at H
   by_cases c12 : x9_1.length < 17592186044416
   ·rw [if_pos c12] at H
    have LMc12 := zA c12
    clear c12
    obtain ⟨y324, hy324⟩ : ∃ y_ : List Int, y_ = (x9_1 ++ [t323]) := ⟨_, rfl⟩
    replace H : ((impl_withoutFirst.f k1 x1_1 t323).bind fun t327 => ((impl_withoutFirst.f k1 x2_1 t323).bind fun t330 => (impl_ties_meet.l0 k1 l0 t327 t330 y324))) = some (r1, r2, r3) := zy hy324 H
    have Ny324 := zA hy324
    clear hy324
    obtain ⟨t327, A13, H⟩ := zb H
    try dsimp only at H
    obtain ⟨t330, A14, H⟩ := zb H
    try dsimp only at H
    have H' := zA H
    clear H
    obtain ⟨Ao15, co15, eo15⟩ := Kd.V_slice HO_1.out
    subst eo15
    go_wp2_with (first | (refine zO (some 15) Tryd.func157 #[.slice A0 l0.length c0, .slice Ao15 x1_1.length co15] ?_; (with_reducible refine (impl_ties_firsts.calls k1 _ _ l0 _ _ x1_1 t321 _ ?side1 ?side2 ?side3 ?side4 A6.out).mono ?_); (case side1 => exact zS (kO HR0.out HB.out)); (case side2 => exact HC0.out); (case side3 => exact zS (kJ HO_1.out).2.2); (case side4 => exact (kJ HO_1.out).2.1); rintro e w' ⟨rfl, ⟨nd, rfl⟩⟩; refine ⟨_, rfl, ?_⟩; obtain ⟨Ao16, co16, eo16⟩ := Kd.V_slice HO_2.out; subst eo16) | (refine zO (some 18) Tryd.func157 #[.slice A0 l0.length c0, .slice Ao16 x2_1.length co16] ?_; (with_reducible refine (impl_ties_firsts.calls k1 _ _ l0 _ _ x2_1 t322 _ ?side1 ?side2 ?side3 ?side4 A7.out).mono ?_); (case side1 => exact zS (kO HR0.out (zQ HB.out))); (case side2 => exact HC0.out); (case side3 => exact zS (kJ HO_2.out).2.2); (case side4 => exact (kJ HO_2.out).2.1); rintro e w' ⟨rfl, ⟨nd, rfl⟩⟩; refine ⟨_, rfl, ?_⟩) | (refine zO (some 26) Tryd.func137 #[.int .i64 (Go.bits .and .i64 t321 t322)] ?_; (with_reducible refine (impl_least.calls (Go.bits .and .i64 t321 t322) t323 _ ?side1 A11.out).mono ?_); (case side1 => exact TabW.below HT.out (zQ HB.out)); rintro e w' ⟨rfl, ⟨nd, rfl⟩⟩; refine ⟨_, rfl, ?_⟩) | ((with_reducible refine gate_builtin (b := .append) (xs := #[.tmp 27, .tmp 29]) rfl ?_); at_builtin; refine Kd.R_append (Kd.int .i64) (w0 := w) w.heap.size rfl (.tmp 27) (.tmp 29) 22 2 (.int .i64 0) 8 rfl Tryd.underlying22 info2 rfl (by decide) (by omega) u9 x9_1 t323 [.int .i64 t323] (fun k_ => (w.heap.size ≤ k_)) (fun _ => False) rfl rfl ?aP (fun _ hk => hk.elim) ?aF ?aO ?aB ?aS ?aL ?_; (case aP => exact rfl); (case aB => exact (zQ HB.out)); (case aF => exact (fun k_ hk => (Nat.le_trans (kP (zQ HB.out)) hk))); (case aO => exact (zP HO_9.out)); (case aS => exact (kP (zQ HB.out))); (case aL => have := LMc12.out; omega); intro v325 w17 ho hb hg hat; rw [← Ny324.out] at ho; replace HO_1 := zA (Kd.V_afterv (ok := (fun k_ => ((P1_ k_ ∨ P2_ k_) ∨ w.heap.size ≤ k_))) (zPV HO_1.out) hg hat); replace HO_2 := zA (Kd.V_afterv (ok := (fun k_ => ((P1_ k_ ∨ P2_ k_) ∨ w.heap.size ≤ k_))) (zPV HO_2.out) hg hat); replace HB := zA (hb); have HO326 := zA (ho); clear HO_9; clear ho hb hg hat) | (refine zO (some 33) Tryd.func158 #[.slice Ao15 x1_1.length co15, .int .i64 t323] ?_; (with_reducible refine (impl_withoutFirst.calls k1 (fun k_ => (((P1_ k_ ∨ P2_ k_) ∨ w.heap.size ≤ k_) ∧ some k_ ≠ (v325 : Value).ownBlock)) _ _ x1_1 t323 t327 _ ?side1 A13.out).mono ?_); (case side1 => exact HO_1.out); rintro e w18 ⟨v328, rfl, ho0, hb⟩; refine ⟨_, rfl, ?_⟩; replace HO_1 := zA (kK (zPV HO_1.out) (kC ho0) hb); replace HO_2 := zA (kK (zPV HO_2.out) (kC ho0) hb); have HO329 := zA (kI (kF (Kd.R_newM (M := fun k_ => (w.heap.size ≤ k_)) (kA (ok' := fun k_ => True) ho0 (fun _ hk_ => trivial)) (kP (zQ HB.out)) (fun k_ h_ => h_)) (kH (zP HO326.out))) (kP (zQ HB.out))); replace HO326 := zA (kE (zP HO326.out) (kC ho0) hb); replace HB := zA (kQ (zQ HB.out) hb); (try clear hb); (try clear ho0)) | (refine zO (some 36) Tryd.func158 #[.slice Ao16 x2_1.length co16, .int .i64 t323] ?_; (with_reducible refine (impl_withoutFirst.calls k1 (fun k_ => ((((P1_ k_ ∨ P2_ k_) ∨ w.heap.size ≤ k_) ∧ some k_ ≠ (v325 : Value).ownBlock) ∧ some k_ ≠ (v328 : Value).ownBlock)) _ _ x2_1 t323 t330 _ ?side1 A14.out).mono ?_); (case side1 => exact HO_2.out); rintro e w19 ⟨v331, rfl, ho0, hb⟩; refine ⟨_, rfl, ?_⟩; replace HO_1 := zA (kK (zPV HO_1.out) (kC ho0) hb); replace HO_2 := zA (kK (zPV HO_2.out) (kC ho0) hb); have HO332 := zA (kI (kF (kF (Kd.R_newM (M := fun k_ => (w.heap.size ≤ k_)) (kA (ok' := fun k_ => True) ho0 (fun _ hk_ => trivial)) (kP (zQ HB.out)) (fun k_ h_ => h_)) (kH (zP HO326.out))) (kH (zP HO329.out))) (kP (zQ HB.out))); replace HO326 := zA (kE (zP HO326.out) (kC ho0) hb); replace HO329 := zA (kE (zP HO329.out) (kC ho0) hb); replace HB := zA (kQ (zQ HB.out) hb); (try clear hb); (try clear ho0)))
    go_roundg k1
    case measure => have := HK1.out; omega
    case rel => exact ⟨(t327), (t330), (y324), H', ⟨by have := HK1.out; omega⟩, ⟨kN (jL (zP HO329.out)) (fun k_ hk => by first | exact ⟨(.inr (hk.1.1.1)), hk.1.2⟩ | exact ⟨(.inr (hk.1)), hk.2⟩ | exact (.inr (hk)))⟩, ⟨kN (jL (zP HO332.out)) (fun k_ hk => by first | exact ⟨(.inr (hk.1.1.1)), hk.1.2⟩ | exact ⟨(.inr (hk.1)), hk.2⟩ | exact (.inr (hk)))⟩, ⟨zPM HO326.out (fun _ hk => hk.1.1)⟩, ⟨zQ HB.out⟩⟩
   rw [if_neg c12] at H
   exact absurd H (by simp)

end Go.Proofs.YthgapkbkhoeleaaDoor.PAll
