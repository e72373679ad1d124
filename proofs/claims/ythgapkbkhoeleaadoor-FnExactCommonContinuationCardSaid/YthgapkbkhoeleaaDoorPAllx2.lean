-- Printed by a program of the session (wip/tools/pgen.py) out of the translation. Not trusted: Lean checks it.
import Derived.Test.YthgapkbkhoeleaaDoorPAllx0
import Derived.Test.YthgapkbkhoeleaaDoorPAllx1
namespace Go.Proofs.YthgapkbkhoeleaaDoor.PAll
open Go.RowKit Go.Proofs.YthgapkbkhoeleaaDoor.T Go.Proofs.YthgapkbkhoeleaaDoorW.PrintWords Go.Proofs.YthgapkbkhoeleaaDoorW.PrintLast Go.Proofs.YthgapkbkhoeleaaDoorW.PrintMore
attribute [local go_sem] max2_int min2_int max_two min_two max_three min_three max_four min_four   -- for this text's walks alone
set_option linter.unusedVariables false
set_option linter.unusedSimpArgs false

/-! ### spec_l05Meet: function 81 -/
mutual
def spec_l05Meet.l0 : Nat → List Int → List Int → List Int → Bool → Int → List Int → Option (List Int)
 | 0, _, _, _, _, _, _ => none
 | k + 1, x7, x8, x9, x10, x179000, x179001 => if x10 = true then (spec_l05Meet.l1 k x7 x8 x9 false 0 x179000 x179001) else (some x7)
def spec_l05Meet.l1 : Nat → List Int → List Int → List Int → Bool → Int → Int → List Int → Option (List Int)
 | 0, _, _, _, _, _, _, _ => none
 | k + 1, x7, x8, x9, x10, x11, x179000, x179001 => if x11 < x179000 then ((spec_l03First.f k x179000 x179001 x8 x11).bind fun t188 => ((spec_l03First.f k x179000 x179001 x9 x11).bind fun t189 => (if t188 ≥ 0 then (spec_l05Meet.j2 k x7 x8 x9 x10 x11 t188 t189 (decide (t189 ≥ 0)) x179000 x179001) else (spec_l05Meet.j2 k x7 x8 x9 x10 x11 t188 t189 false x179000 x179001)))) else (spec_l05Meet.l0 k x7 x8 x9 x10 x179000 x179001)
def spec_l05Meet.j2 : Nat → List Int → List Int → List Int → Bool → Int → Int → Int → Bool → Int → List Int → Option (List Int)
 | 0, _, _, _, _, _, _, _, _, _, _ => none
 | k + 1, x7, x8, x9, x10, x11, x12, x13, x39, x179000, x179001 => if x39 = true then (if x7.length < 17592186044416 then ((spec_l03Without.f x8 x12).bind fun t193 => ((spec_l03Without.f x9 x13).bind fun t196 => (spec_l05Meet.l1 k (x7 ++ [x11]) t193 t196 true (wrap64 (x11 + 1)) x179000 x179001))) else (none)) else (spec_l05Meet.l1 k x7 x8 x9 x10 (wrap64 (x11 + 1)) x179000 x179001)
end
def spec_l05Meet.f (k : Nat) (a0_0 : Int) (l0_1 : List Int) (l1 : List Int) (l2 : List Int) : Option (List Int) := (spec_l01Own.f l1).bind fun t182 => ((spec_l01Own.f l2).bind fun t185 => (spec_l05Meet.l0 k (([] : List Int)) t182 t185 true a0_0 l0_1))

def spec_l05Meet.T8 : Bool × List (List Nat × List Nat) := (true, [([], []), ([], []), ([], []), ([0, 1, 2], [0, 1, 2]), ([], []), ([], []), ([], []), ([4, 5, 6, 3], [4, 5, 6]), ([3, 7, 0, 1, 2, 3], [3]), ([7, 8, 0, 1, 2, 3, 4, 5, 6, 7, 8], [7])])
def spec_l05Meet.B8 : List Nat := [0, 0, 0, 7, 0, 0, 0, 127, 255, 511]
theorem spec_l05Meet.tab8 : rtab .any (opsOf Tryd.f81 8) = spec_l05Meet.T8 := by kernel_rfl
theorem spec_l05Meet.bits8 : waitsOk spec_l05Meet.T8.2 spec_l05Meet.B8 = true := by kernel_rfl
set_option maxHeartbeats 8000000 in
set_option maxRecDepth 100000 in
theorem spec_l05Meet.calls (k : Nat) (a0_0 : Int) (A0_1 : Option Addr) (c0_1 : Nat) (l0_1 : List Int) (A1 : Option Addr) (c1 : Nat) (l1 : List Int) (A2 : Option Addr) (c2 : Nat) (l2 : List Int) (r : List Int) (w : World) (hr0_1 : Kd.C (Kd.int .i64) w A0_1 l0_1.length l0_1) (hc0_1 : l0_1.length ≤ c0_1) (hr1 : Kd.C (Kd.int .i64) w A1 l1.length l1) (hc1 : l1.length ≤ c1) (hr2 : Kd.C (Kd.int .i64) w A2 l2.length l2) (hc2 : l2.length ≤ c2) (h : spec_l05Meet.f k a0_0 l0_1 l1 l2 = some r) :
  Calls Tryd.prog 81 #[.agg #[.int .i64 a0_0, .slice A0_1 l0_1.length c0_1], .slice A1 l1.length c1, .slice A2 l2.length c2] w fun e w' => ∃ v0_ : Value, e = .returned (v0_) ∧ Kd.R (Kd.int .i64) 2 w' w.heap.size (fun _ => True) v0_ r ∧ Below w.heap.size w w' := by
 have hu29 := Tryd.underlying29
 have HR0_1 := zA hr0_1
 have HC0_1 := zA hc0_1
 clear hr0_1 hc0_1
 have HR1 := zA hr1
 have HC1 := zA hc1
 clear hr1 hc1
 have HR2 := zA hr2
 have HC2 := zA hc2
 clear hr2 hc2
 have HB := zA (kW w.heap.size w)
 have H := h
 unfold spec_l05Meet.f at H
 clear h
 obtain ⟨y179, hy179⟩ : ∃ y_ : List Int, y_ = (([] : List Int)) := ⟨_, rfl⟩
 replace H : ((spec_l01Own.f l1).bind fun t182 => ((spec_l01Own.f l2).bind fun t185 => (spec_l05Meet.l0 k y179 t182 t185 true a0_0 l0_1))) = some r := zy hy179 H
 have Ny179 := zA hy179
 clear hy179
 obtain ⟨t182, A4, H⟩ := zb H
 try dsimp only at H
 obtain ⟨t185, A5, H⟩ := zb H
 try dsimp only at H
 have H' := zA H
 clear H
 go_enter Tryd.func81, Tryd.ntmps81
 go_wp2_with (first | (refine zBE 3 #[.int .i64 a0_0, .slice A0_1 l0_1.length c0_1] 29 ?_; intro gb178 hg w6 hbox hb; have BK178 := zA (hbox); have GW178 := zA (zBH hg HB.out); have GE178 := zA (zBH hg HB.out); replace HB := zA (kQ (zQ HB.out) hb); clear hb hbox hg) | ((with_reducible refine kS (N := 14) rfl ?_); refine Kd.R_lit (Kd.int .i64) _ 2 ?hg (N := 14) ?hd (xs := ([] : List Int)) (inner := []) (ok := fun _ => True) (okp := fun _ => True) ?hr ?hp (fun _ hk => hk) trivial (kW _ _) (Nat.le_refl _) (by simp) ?_; (case hd => rfl); (case hg => rfl); (case hr => first | (go_simp; done) | (go_simp; rfl)); (case hp => exact (Reps.none _ _)); intro v180 w7 ho8 hb hg_ hnew_; clear hg_ hnew_; (first | rw [← Ny179.out] at ho8 | (simp only [Int.reduceToNat] at ho8; rw [← Ny179.out] at ho8)); have HO181 := zA (kI ho8 (kP (zT HB.out GE178.out))); replace BK178 := zA (zB1 BK178.out hb); replace HB := zA (kQ (zT HB.out GE178.out) hb); clear hb ho8) | (refine zO (some 16) Tryd.func80 #[.slice A1 l1.length c1] ?_; (with_reducible refine (spec_l01Own.calls _ _ l1 t182 _ ?side1 ?side2 A4.out).mono ?_); (case side1 => exact zS (kO HR1.out HB.out)); (case side2 => exact HC1.out); rintro e w9 ⟨v183, rfl, ho0, hb⟩; refine ⟨_, rfl, ?_⟩; have HO184 := zA (kI (kF ho0 (kH (zP HO181.out))) (kP (zT HB.out GE178.out))); replace HO181 := zA (kE (zP HO181.out) (kC ho0) hb); replace BK178 := zA (zB1 BK178.out hb); replace HB := zA (kQ (zT HB.out GE178.out) hb); (try clear hb); (try clear ho0)) | (refine zO (some 18) Tryd.func80 #[.slice A2 l2.length c2] ?_; (with_reducible refine (spec_l01Own.calls _ _ l2 t185 _ ?side1 ?side2 A5.out).mono ?_); (case side1 => exact zS (kO HR2.out HB.out)); (case side2 => exact HC2.out); rintro e w10 ⟨v186, rfl, ho0, hb⟩; refine ⟨_, rfl, ?_⟩; have HO187 := zA (kI (kF (kF ho0 (kH (zP HO181.out))) (kH (zP HO184.out))) (kP (zT HB.out GE178.out))); replace HO181 := zA (kE (zP HO181.out) (kC ho0) hb); replace HO184 := zA (kE (zP HO184.out) (kC ho0) hb); replace BK178 := zA (zB1 BK178.out hb); replace HB := zA (kQ (zT HB.out GE178.out) hb); (try clear hb); (try clear ho0)))
 go_loopg [7, 8, 9, 10] k (fun kq v7 v8 v9 v10 w' => ∃ (x7_1 : List Int) (x8_1 : List Int) (x9_1 : List Int) (x10_1 : Bool), v10 = .bool x10_1 ∧ Aside0 (spec_l05Meet.l0 kq x7_1 x8_1 x9_1 x10_1 a0_0 l0_1 = some r) ∧ Aside0 (kq ≤ k) ∧ Aside0 (Kd.R (Kd.int .i64) 2 w' w.heap.size (fun k_ => some k_ ≠ (v8 : Value).ownBlock ∧ some k_ ≠ (v9 : Value).ownBlock) v7 x7_1) ∧ Aside0 (Kd.R (Kd.int .i64) 2 w' w.heap.size (fun k_ => some k_ ≠ (v7 : Value).ownBlock ∧ some k_ ≠ (v9 : Value).ownBlock) v8 x8_1) ∧ Aside0 (Kd.R (Kd.int .i64) 2 w' w.heap.size (fun k_ => some k_ ≠ (v7 : Value).ownBlock ∧ some k_ ≠ (v8 : Value).ownBlock) v9 x9_1) ∧ Aside0 (w'.heap[gb178]? = some (.cells #[.int .i64 a0_0, (.slice A0_1 l0_1.length c0_1)] 29 (0, 0))) ∧ Aside0 (Below w.heap.size w w'))
 case atStart => exact ⟨(y179), (t182), (t185), (true), zs, H', ⟨Nat.le_refl _⟩, ⟨zPM HO181.out (fun _ hk => ⟨hk.1.2, hk.2⟩)⟩, ⟨zPM HO184.out (fun _ hk => ⟨hk.1.2, hk.2⟩)⟩, ⟨zPM HO187.out (fun _ hk => ⟨hk.1.2, hk.2⟩)⟩, ⟨zR BK178.out⟩, ⟨zT HB.out GE178.out⟩⟩
 case round =>
  clear H'
  try clear c1
  try clear c2
  try clear c8
  obtain ⟨x7_1, x8_1, x9_1, x10_1, rfl, HA, HK1, HO_7, HO_8, HO_9, BK178, HB⟩ := hrel
  cases gk with
  | zero => exact absurd HA.out (by simp [spec_l05Meet.l0])
  | succ k1 =>
   have H := HA.out
   clear HA
   simp only [spec_l05Meet.l0] at H
   by_cases c11 : x10_1 = true
   ·subst c11
    rw [if_pos rfl] at H
    have H' := zA H
    clear H
    go_wp2
    go_loopg [7, 8, 9, 10, 11] k1 (fun kq v7 v8 v9 v10 v11 w' => ∃ (x7_2 : List Int) (x8_2 : List Int) (x9_2 : List Int) (x10_2 : Bool) (x11_2 : Int), v10 = .bool x10_2 ∧ v11 = .int .i64 x11_2 ∧ Aside0 (spec_l05Meet.l1 kq x7_2 x8_2 x9_2 x10_2 x11_2 a0_0 l0_1 = some r) ∧ Aside0 (kq ≤ k1) ∧ Aside0 (Kd.R (Kd.int .i64) 2 w' w.heap.size (fun k_ => some k_ ≠ (v8 : Value).ownBlock ∧ some k_ ≠ (v9 : Value).ownBlock) v7 x7_2) ∧ Aside0 (Kd.R (Kd.int .i64) 2 w' w.heap.size (fun k_ => some k_ ≠ (v7 : Value).ownBlock ∧ some k_ ≠ (v9 : Value).ownBlock) v8 x8_2) ∧ Aside0 (Kd.R (Kd.int .i64) 2 w' w.heap.size (fun k_ => some k_ ≠ (v7 : Value).ownBlock ∧ some k_ ≠ (v8 : Value).ownBlock) v9 x9_2) ∧ Aside0 (w'.heap[gb178]? = some (.cells #[.int .i64 a0_0, (.slice A0_1 l0_1.length c0_1)] 29 (0, 0))) ∧ Aside0 (Below w.heap.size w w'))
    case atStart => exact ⟨(x7_1), (x8_1), (x9_1), (false), (0), zs, zs, H', ⟨Nat.le_refl _⟩, ⟨zP HO_7.out⟩, ⟨zP HO_8.out⟩, ⟨zP HO_9.out⟩, ⟨zR BK178.out⟩, ⟨zT HB.out GE178.out⟩⟩
    case round =>
     clear H'
     try clear c1
     try clear c2
     try clear c8
     try clear c11
     obtain ⟨x7_2, x8_2, x9_2, x10_2, x11_2, rfl, rfl, HA, HK2, HO_7, HO_8, HO_9, BK178, HB⟩ := hrel
     cases gk with
     | zero => exact absurd HA.out (by simp [spec_l05Meet.l1])
     | succ k2 =>
      have H := HA.out
      clear HA
      simp only [spec_l05Meet.l1] at H
      by_cases c12 : x11_2 < a0_0
      ·rw [if_pos c12] at H
       have c12b0 : decide (x11_2 < a0_0) = true := decide_eq_true c12
       clear c12
       obtain ⟨t188, A13, H⟩ := zb H
       try dsimp only at H
       obtain ⟨t189, A14, H⟩ := zb H
       try dsimp only at H
       have HC15 := zA H
       clear H
       obtain ⟨hcz16_0, hcz16_1, hfz16_0, hfz16_1⟩ := zB3 BK178.out
       try go_wp2
       replace HO_7 := zA (zH HO_7.out)
       replace HO_8 := zA (zH HO_8.out)
       replace HO_9 := zA (zH HO_9.out)
       replace BK178 := zA (zK BK178.out)
       replace HB := zA (zD HB.out)
       obtain ⟨Ao18, co18, eo18⟩ := kM HO_8.out
       (first | subst eo18 | (injection eo18 with f1_ f2_ f3_; have f4_ := f1_.symm; have f5_ := f3_.symm; clear f1_ f2_ f3_; subst f4_; subst f5_))
       refine start_ (n := 10) (S := fun w' => w'.cell? ⟨gb178, 0, none⟩ = some (.int .i64 a0_0) ∧ w'.cell? ⟨gb178, 1, none⟩ = some (.slice A0_1 l0_1.length c0_1)) (ds := []) #[false, false, false, false, false, false, false, false, false, false] (by kernel_rfl) rfl rfl ⟨(kV BK178.out 0).trans rfl, (kV BK178.out 1).trans rfl⟩ (fun hHeld => ?_); refine with_tabW spec_l05Meet.tab8 spec_l05Meet.bits8 (fun HT_ HW_ => ?_)
       generalize wr.drew = w17 at HO_7 HO_8 HO_9 BK178 HB hHeld ⊢
       refine zp 1 (some 27) #[false, true, false, false, false, false, false, false, false, false] HT_.out ?_
       refine zp 2 (some 28) #[false, true, true, false, false, false, false, false, false, false] HT_.out ?_
       refine zp 5 (some 31) #[false, true, true, false, false, true, false, false, false, false] HT_.out ?_
       refine zp 6 (some 32) #[false, true, true, false, false, true, true, false, false, false] HT_.out ?_
       refine zc 0 (some 26) #[true, true, true, false, false, true, true, false, false, false] HT_.out HW_.out hHeld ?_
       refine zc 4 (some 30) #[true, true, true, false, true, true, true, false, false, false] HT_.out HW_.out hHeld ?_
       refine one_ (i := 3) (N := some 29) #[true, true, true, true, true, true, true, false, false, false] rfl rfl (one_of HT_.out (by kernel_rfl)) (by decide) (fun K hK => ?_)
       refine goes_ Tryd.func153 (by kernel_rfl) rfl #[.agg #[.int .i64 a0_0, .slice A0_1 l0_1.length c0_1], .slice Ao18 x8_2.length co18, .int .i64 x11_2] (by rfl) rfl rfl zg ?_
       with_reducible refine (spec_l03First.calls k2 a0_0 _ _ l0_1 _ _ x8_2 x11_2 t188 _ ?side1 ?side2 ?side3 ?side4 A13.out).mono ?_
       (case side1 => exact zS (kO HR0_1.out HB.out))
       (case side2 => exact HC0_1.out)
       (case side3 => exact zS (kB HO_8.out).2.2)
       (case side4 => exact (kB HO_8.out).2.1)
       rintro e w19 ⟨rfl, hb⟩
       refine ⟨_, rfl, ?_⟩
       replace HO_7 := zA (kL (zP HO_7.out) hb)
       replace HO_8 := zA (kL (zP HO_8.out) hb)
       replace HO_9 := zA (kL (zP HO_9.out) hb)
       replace BK178 := zA (zB1 BK178.out hb)
       replace HB := zA (kQ (zT HB.out GE178.out) hb)
       (try clear hb)
       (try clear hb2)
       (try clear hk)
       (try clear hi)
       (try clear hgw)
       obtain ⟨Ao20, co20, eo20⟩ := kM HO_9.out
       (first | subst eo20 | (injection eo20 with f1_ f2_ f3_; have f4_ := f1_.symm; have f5_ := f3_.symm; clear f1_ f2_ f3_; subst f4_; subst f5_))
       refine hK.out _ _ ⟨(kV BK178.out 0).trans rfl, (kV BK178.out 1).trans rfl⟩ (fun hHeld => ?_)
       clear hK K
       refine norm_ (a' := ?_) ?_ ?_
       rotate_left
       ·show Act.put _ (some 29) _ = _
        simp only [Act.put, zL, zM, zN, i64_w, i32_w]
        rfl
       refine one_ (i := 7) (N := some 33) #[true, true, true, true, true, true, true, true, false, false] rfl rfl (one_of HT_.out (by kernel_rfl)) (by decide) (fun K hK => ?_)
       refine goes_ Tryd.func153 (by kernel_rfl) rfl #[.agg #[.int .i64 a0_0, .slice A0_1 l0_1.length c0_1], .slice Ao20 x9_2.length co20, .int .i64 x11_2] (by rfl) rfl rfl zg ?_
       with_reducible refine (spec_l03First.calls k2 a0_0 _ _ l0_1 _ _ x9_2 x11_2 t189 _ ?side1 ?side2 ?side3 ?side4 A14.out).mono ?_
       (case side1 => exact zS (kO HR0_1.out HB.out))
       (case side2 => exact HC0_1.out)
       (case side3 => exact zS (kB HO_9.out).2.2)
       (case side4 => exact (kB HO_9.out).2.1)
       rintro e w21 ⟨rfl, hb⟩
       refine ⟨_, rfl, ?_⟩
       replace HO_7 := zA (kL (zP HO_7.out) hb)
       replace HO_8 := zA (kL (zP HO_8.out) hb)
       replace HO_9 := zA (kL (zP HO_9.out) hb)
       replace BK178 := zA (zB1 BK178.out hb)
       replace HB := zA (kQ (zT HB.out GE178.out) hb)
       (try clear hb)
       (try clear hb2)
       (try clear hk)
       (try clear hi)
       (try clear hgw)
       refine hK.out _ _ ⟨(kV BK178.out 0).trans rfl, (kV BK178.out 1).trans rfl⟩ (fun hHeld => ?_)
       clear hK K
       refine norm_ (a' := ?_) ?_ ?_
       rotate_left
       ·show Act.put _ (some 33) _ = _
        simp only [Act.put, zL, zM, zN, i64_w, i32_w]
        rfl
       refine zp 8 (some 12) #[true, true, true, true, true, true, true, true, true, false] HT_.out ?_
       refine zp 9 (some 13) #[true, true, true, true, true, true, true, true, true, true] HT_.out ?_
       refine done_ (done_of HT_.out (by kernel_rfl)) ?_
       go_upto_region 9 with (fail)
       go_cut [39] (fun v39 wc => ∃ (kq : Nat) (x39_14 : Bool), v39 = .bool x39_14 ∧ Aside0 (spec_l05Meet.j2 kq x7_2 x8_2 x9_2 x10_2 x11_2 t188 t189 x39_14 a0_0 l0_1 = some r) ∧ Aside0 (kq ≤ k2) ∧ Aside0 (Kd.R (Kd.int .i64) 2 wc w.heap.size (fun k_ => some k_ ≠ ((.slice Ao18 x8_2.length co18) : Value).ownBlock ∧ some k_ ≠ ((.slice Ao20 x9_2.length co20) : Value).ownBlock) u7 x7_2) ∧ Aside0 (Kd.R (Kd.int .i64) 2 wc w.heap.size (fun k_ => some k_ ≠ (u7 : Value).ownBlock ∧ some k_ ≠ ((.slice Ao20 x9_2.length co20) : Value).ownBlock) (.slice Ao18 x8_2.length co18) x8_2) ∧ Aside0 (Kd.R (Kd.int .i64) 2 wc w.heap.size (fun k_ => some k_ ≠ (u7 : Value).ownBlock ∧ some k_ ≠ ((.slice Ao18 x8_2.length co18) : Value).ownBlock) (.slice Ao20 x9_2.length co20) x9_2) ∧ Aside0 (wc.heap[gb178]? = some (.cells #[.int .i64 a0_0, (.slice A0_1 l0_1.length c0_1)] 29 (0, 0))) ∧ Aside0 (Below w.heap.size w wc))
       case first =>
        have H := HC15.out
        clear HC15
        by_cases c22 : t188 ≥ 0
        ·rw [if_pos c22] at H
         have c22b0 : decide (0 ≤ t188) = true := decide_eq_true c22
         clear c22
         (first | rw [c22b0] | (simp only [i64_w, i32_w]; rw [c22b0]) | skip)
         have H' := zA H
         clear H
         go_wp2
         go_meet
         case rel => exact ⟨_, (decide (t189 ≥ 0)), zs, H', ⟨by have := HK1.out; have := HK2.out; first | omega | exact Nat.le_refl _⟩, ⟨zP HO_7.out⟩, ⟨zP HO_8.out⟩, ⟨zP HO_9.out⟩, ⟨zR BK178.out⟩, ⟨zT HB.out GE178.out⟩⟩
        rw [if_neg c22] at H
        have c22b0 : decide (0 ≤ t188) = false := decide_eq_false c22
        clear c22
        (first | rw [c22b0] | (simp only [i64_w, i32_w]; rw [c22b0]) | skip)
        have H' := zA H
        clear H
        go_wp2
        go_meet
        case rel => exact ⟨_, (false), zs, H', ⟨by have := HK1.out; have := HK2.out; first | omega | exact Nat.le_refl _⟩, ⟨zP HO_7.out⟩, ⟨zP HO_8.out⟩, ⟨zP HO_9.out⟩, ⟨zR BK178.out⟩, ⟨zT HB.out GE178.out⟩⟩
       case rest =>
        clear HC15
        try clear c1
        try clear c2
        try clear c8
        try clear c11
        try clear c12
        try clear c15
        try clear c22
        try clear hcz16_0
        try clear hcz16_1
        try clear hfz16_0
        try clear hfz16_1
        obtain ⟨kq, x39_14, rfl, HA, HJ14, HO_7, HO_8, HO_9, BK178, HB⟩ := hcut
        cases kq with
        | zero => exact absurd HA.out (by simp [spec_l05Meet.j2])
        | succ kj14 =>
         have H := HA.out
         clear HA
         simp only [spec_l05Meet.j2] at H
         by_cases c23 : x39_14 = true
         ·subst c23
          rw [if_pos rfl] at H
          by_cases c24 : x7_2.length < 17592186044416
          ·rw [if_pos c24] at H
           have LMc24 := zA c24
           clear c24
           obtain ⟨y190, hy190⟩ : ∃ y_ : List Int, y_ = (x7_2 ++ [x11_2]) := ⟨_, rfl⟩
           replace H : ((spec_l03Without.f x8_2 t188).bind fun t193 => ((spec_l03Without.f x9_2 t189).bind fun t196 => (spec_l05Meet.l1 kj14 y190 t193 t196 true (wrap64 (x11_2 + 1)) a0_0 l0_1))) = some r := zy hy190 H
           have Ny190 := zA hy190
           clear hy190
           obtain ⟨t193, A25, H⟩ := zb H
           try dsimp only at H
           obtain ⟨t196, A26, H⟩ := zb H
           try dsimp only at H
           have H' := zA H
           clear H
           go_wp2_with (first | ((with_reducible refine gate_builtin (b := .append) (xs := #[.tmp 40, .tmp 42]) rfl ?_); at_builtin; refine Kd.R_append (Kd.int .i64) (w0 := w) w.heap.size rfl (.tmp 40) (.tmp 42) 22 2 (.int .i64 0) 8 rfl Tryd.underlying22 info2 rfl (by decide) (by omega) u7 x7_2 x11_2 [.int .i64 x11_2] (fun k_ => some k_ ≠ (.slice Ao18 x8_2.length co18 : Value).ownBlock ∧ some k_ ≠ (.slice Ao20 x9_2.length co20 : Value).ownBlock) (fun _ => False) rfl rfl ?aP (fun _ hk => hk.elim) ?aF ?aO ?aB ?aS ?aL ?_; (case aP => exact rfl); (case aB => exact (zT HB.out GE178.out)); (case aF => exact (fun k_ hk => ⟨jF (kH (zP HO_8.out)) k_ hk, jF (kH (zP HO_9.out)) k_ hk⟩)); (case aO => exact (zP HO_7.out)); (case aS => exact (kP (zT HB.out GE178.out))); (case aL => have := LMc24.out; omega); intro v191 w27 ho hb hg hat; rw [← Ny190.out] at ho; replace HO_8 := zA (Kd.R_after (ok := (fun k_ => some k_ ≠ (.slice Ao20 x9_2.length co20 : Value).ownBlock)) (by (with_reducible repeat (first | apply zF | apply zG | apply zH)); exact kA HO_8.out (fun _ hk => ⟨hk.2, hk.1⟩)) hg hat); replace HO_9 := zA (Kd.R_after (ok := (fun k_ => some k_ ≠ (.slice Ao18 x8_2.length co18 : Value).ownBlock)) (by (with_reducible repeat (first | apply zF | apply zG | apply zH)); exact kA HO_9.out (fun _ hk => ⟨hk.2, hk.1⟩)) hg hat); replace BK178 := zA (blk_grown (g := gb178) (o := .cells #[.int .i64 a0_0, .slice A0_1 l0_1.length c0_1] 29 (0, 0)) (zR BK178.out) hg (Kd.R_ne HO_7.out BK178.out (by decide))); replace HB := zA (hb); have HO192 := zA (ho); clear HO_7; clear ho hb hg hat) | (refine zO (some 46) Tryd.func154 #[.slice Ao18 x8_2.length co18, .int .i64 t188] ?_; (with_reducible refine (spec_l03Without.calls _ _ x8_2 t188 t193 _ ?side1 ?side2 A25.out).mono ?_); (case side1 => exact zS (kB HO_8.out).2.2); (case side2 => exact (kB HO_8.out).2.1); rintro e w28 ⟨v194, rfl, ho0, hb⟩; refine ⟨_, rfl, ?_⟩; have HO195 := zA (kI (kF (kF (kF ho0 (kH (zP HO_8.out))) (kH (zP HO_9.out))) (kH (zP HO192.out))) (kP (zT HB.out GE178.out))); replace HO_8 := zA (kE (zP HO_8.out) (kC ho0) hb); replace HO_9 := zA (kE (zP HO_9.out) (kC ho0) hb); replace HO192 := zA (kE (zP HO192.out) (kC ho0) hb); replace BK178 := zA (zB1 BK178.out hb); replace HB := zA (kQ (zT HB.out GE178.out) hb); (try clear hb); (try clear ho0)) | (refine zO (some 49) Tryd.func154 #[.slice Ao20 x9_2.length co20, .int .i64 t189] ?_; (with_reducible refine (spec_l03Without.calls _ _ x9_2 t189 t196 _ ?side1 ?side2 A26.out).mono ?_); (case side1 => exact zS (kB HO_9.out).2.2); (case side2 => exact (kB HO_9.out).2.1); rintro e w29 ⟨v197, rfl, ho0, hb⟩; refine ⟨_, rfl, ?_⟩; have HO198 := zA (kI (kF (kF (kF (kF ho0 (kH (zP HO_8.out))) (kH (zP HO_9.out))) (kH (zP HO192.out))) (kH (zP HO195.out))) (kP (zT HB.out GE178.out))); replace HO_8 := zA (kE (zP HO_8.out) (kC ho0) hb); replace HO_9 := zA (kE (zP HO_9.out) (kC ho0) hb); replace HO192 := zA (kE (zP HO192.out) (kC ho0) hb); replace HO195 := zA (kE (zP HO195.out) (kC ho0) hb); replace BK178 := zA (zB1 BK178.out hb); replace HB := zA (kQ (zT HB.out GE178.out) hb); (try clear hb); (try clear ho0)))
           go_roundg kj14
           case measure => have := HK1.out; have := HK2.out; have := HJ14.out; omega
           case rel => exact ⟨(y190), (t193), (t196), (true), (wrap64 (x11_2 + 1)), zs, zs, H', ⟨by have := HK1.out; have := HK2.out; have := HJ14.out; omega⟩, ⟨zPM HO192.out (fun _ hk => ⟨hk.1.2, hk.2⟩)⟩, ⟨zPM HO195.out (fun _ hk => ⟨hk.1.2, hk.2⟩)⟩, ⟨zPM HO198.out (fun _ hk => ⟨hk.1.2, hk.2⟩)⟩, ⟨zR BK178.out⟩, ⟨zT HB.out GE178.out⟩⟩
          rw [if_neg c24] at H
          exact absurd H (by simp)
         replace c23 := Bool.eq_false_iff.mpr c23
         subst c23
         rw [if_neg (show ¬ (false = true) by decide)] at H
         have H' := zA H
         clear H
         go_wp2
         go_roundg kj14
         case measure => have := HK1.out; have := HK2.out; have := HJ14.out; omega
         case rel => exact ⟨(x7_2), (x8_2), (x9_2), (x10_2), (wrap64 (x11_2 + 1)), zs, zs, H', ⟨by have := HK1.out; have := HK2.out; have := HJ14.out; omega⟩, ⟨zP HO_7.out⟩, ⟨zP HO_8.out⟩, ⟨zP HO_9.out⟩, ⟨zR BK178.out⟩, ⟨zT HB.out GE178.out⟩⟩
      rw [if_neg c12] at H
      have c12b0 : decide (x11_2 < a0_0) = false := decide_eq_false c12
      clear c12
      have H' := zA H
      clear H
      obtain ⟨hcz30_0, hcz30_1, hfz30_0, hfz30_1⟩ := zB3 BK178.out
      go_wp2
      go_roundg k2
      case measure => have := HK1.out; have := HK2.out; omega
      case rel => exact ⟨(x7_2), (x8_2), (x9_2), (x10_2), zs, H', ⟨by have := HK1.out; have := HK2.out; omega⟩, ⟨zP HO_7.out⟩, ⟨zP HO_8.out⟩, ⟨zP HO_9.out⟩, ⟨zR BK178.out⟩, ⟨zT HB.out GE178.out⟩⟩
   replace c11 := Bool.eq_false_iff.mpr c11
   subst c11
   rw [if_neg (show ¬ (false = true) by decide)] at H
   obtain rfl := Option.some.inj H
   go_wp2
   go_ret
   exact ⟨_, zr, by (with_reducible repeat (first | apply zF | apply zG | apply zH)); exact kA HO_7.out (fun _ hk => trivial), zT HB.out GE178.out⟩

/-! ### spec_l05Cut: function 82 -/
def spec_l05Cut.l0 : Nat → List Int → List Int → Int → Int → List Int → Option (List Int × Bool)
 | 0, _, _, _, _, _ => none
 | k + 1, x1, x8, x9, x200000, x200001 => if x9 < (x1.length : Int) then (if 0 ≤ x9 then ((spec_l03First.f k x200000 x200001 x8 (rd x1 x9)).bind fun t204 => (if t204 < 0 then (some (([] : List Int), false)) else ((spec_l03Without.f x8 t204).bind fun t205 => (spec_l05Cut.l0 k x1 t205 (wrap64 (x9 + 1)) x200000 x200001)))) else (none)) else (some (x8, true))
def spec_l05Cut.f (k : Nat) (a0_0 : Int) (l0_1 : List Int) (l1 : List Int) (l2 : List Int) : Option (List Int × Bool) := (spec_l01Own.f l2).bind fun t200 => (spec_l05Cut.l0 k l1 t200 0 a0_0 l0_1)

def spec_l05Cut.T5 : Bool × List (List Nat × List Nat) := (true, [([], []), ([], []), ([], []), ([], []), ([2, 3], [2, 3]), ([4], [4]), ([0, 1, 5], [0, 1, 5]), ([6, 6, 0, 1, 2, 3, 4, 5, 6], [6])])
def spec_l05Cut.B5 : List Nat := [0, 0, 0, 0, 12, 28, 63, 127]
theorem spec_l05Cut.tab5 : rtab .any (opsOf Tryd.f82 5) = spec_l05Cut.T5 := by kernel_rfl
theorem spec_l05Cut.bits5 : waitsOk spec_l05Cut.T5.2 spec_l05Cut.B5 = true := by kernel_rfl
set_option maxHeartbeats 8000000 in
set_option maxRecDepth 100000 in
theorem spec_l05Cut.calls (k : Nat) (a0_0 : Int) (A0_1 : Option Addr) (c0_1 : Nat) (l0_1 : List Int) (A1 : Option Addr) (c1 : Nat) (l1 : List Int) (A2 : Option Addr) (c2 : Nat) (l2 : List Int) (r1 : List Int) (r2 : Bool) (w : World) (hr0_1 : Kd.C (Kd.int .i64) w A0_1 l0_1.length l0_1) (hc0_1 : l0_1.length ≤ c0_1) (hr1 : Kd.C (Kd.int .i64) w A1 l1.length l1) (hc1 : l1.length ≤ c1) (hr2 : Kd.C (Kd.int .i64) w A2 l2.length l2) (hc2 : l2.length ≤ c2) (h : spec_l05Cut.f k a0_0 l0_1 l1 l2 = some (r1, r2)) :
  Calls Tryd.prog 82 #[.agg #[.int .i64 a0_0, .slice A0_1 l0_1.length c0_1], .slice A1 l1.length c1, .slice A2 l2.length c2] w fun e w' => ∃ v0_ : Value, e = .returned (.tuple #[v0_, .bool r2]) ∧ Kd.R (Kd.int .i64) 2 w' w.heap.size (fun _ => True) v0_ r1 ∧ Below w.heap.size w w' := by
 have hu29 := Tryd.underlying29
 have HR0_1 := zA hr0_1
 have HC0_1 := zA hc0_1
 clear hr0_1 hc0_1
 have HR1 := zA hr1
 have HC1 := zA hc1
 clear hr1 hc1
 have HR2 := zA hr2
 have HC2 := zA hc2
 clear hr2 hc2
 have HB := zA (kW w.heap.size w)
 have H := h
 unfold spec_l05Cut.f at H
 clear h
 obtain ⟨t200, A4, H⟩ := zb H
 try dsimp only at H
 have H' := zA H
 clear H
 go_enter Tryd.func82, Tryd.ntmps82
 go_wp2_with (first | (refine zBE 3 #[.int .i64 a0_0, .slice A0_1 l0_1.length c0_1] 29 ?_; intro gb199 hg w5 hbox hb; have BK199 := zA (hbox); have GW199 := zA (zBH hg HB.out); have GE199 := zA (zBH hg HB.out); replace HB := zA (kQ (zQ HB.out) hb); clear hb hbox hg) | (refine zO (some 12) Tryd.func80 #[.slice A2 l2.length c2] ?_; (with_reducible refine (spec_l01Own.calls _ _ l2 t200 _ ?side1 ?side2 A4.out).mono ?_); (case side1 => exact zS (kO HR2.out HB.out)); (case side2 => exact HC2.out); rintro e w6 ⟨v201, rfl, ho0, hb⟩; refine ⟨_, rfl, ?_⟩; have HO202 := zA (kI ho0 (kP (zT HB.out GE199.out))); replace BK199 := zA (zB1 BK199.out hb); replace HB := zA (kQ (zT HB.out GE199.out) hb); (try clear hb); (try clear ho0)))
 go_loopg [8, 9] k (fun kq v8 v9 w' => ∃ (x8_1 : List Int) (x9_1 : Int), v9 = .int .i64 x9_1 ∧ Aside0 (spec_l05Cut.l0 kq l1 x8_1 x9_1 a0_0 l0_1 = some (r1, r2)) ∧ Aside0 (kq ≤ k) ∧ Aside0 (Kd.R (Kd.int .i64) 2 w' w.heap.size (fun _ => True) v8 x8_1) ∧ Aside0 (w'.heap[gb199]? = some (.cells #[.int .i64 a0_0, (.slice A0_1 l0_1.length c0_1)] 29 (0, 0))) ∧ Aside0 (Below w.heap.size w w'))
 case atStart => exact ⟨(t200), (0), zs, H', ⟨Nat.le_refl _⟩, ⟨zP HO202.out⟩, ⟨zR BK199.out⟩, ⟨zT HB.out GE199.out⟩⟩
 case round =>
  clear H'
  try clear c1
  try clear c2
  obtain ⟨x8_1, x9_1, rfl, HA, HK1, HO_8, BK199, HB⟩ := hrel
  cases gk with
  | zero => exact absurd HA.out (by simp [spec_l05Cut.l0])
  | succ k1 =>
   have H := HA.out
   clear HA
   simp only [spec_l05Cut.l0] at H
   by_cases c7 : x9_1 < (l1.length : Int)
   ·rw [if_pos c7] at H
    have c7b0 : decide (x9_1 < (l1.length : Int)) = true := decide_eq_true c7
    clear c7
    by_cases c8 : 0 ≤ x9_1
    ·rw [if_pos c8] at H
     have c8b0 : decide (0 ≤ x9_1) = true := decide_eq_true c8
     clear c8
     obtain ⟨t204, A9, H⟩ := zb H
     try dsimp only at H
     by_cases c10 : t204 < 0
     ·rw [if_pos c10] at H
      have c10b0 : decide (t204 < 0) = true := decide_eq_true c10
      clear c10
      simp only [Option.some.injEq, Prod.mk.injEq] at H
      obtain ⟨rfl, rfl⟩ := H
      try go_wp2
      replace HO_8 := zA (zH HO_8.out)
      replace BK199 := zA (zK BK199.out)
      replace HB := zA (zD HB.out)
      have p203 : 0 ≤ (x9_1 : Int) := zd
      have q203 : x9_1 < (l1.length : Int) := zd
      obtain ⟨ad203, e203, hx203_0⟩ := Kd.at_int HR1.out x9_1 p203 q203
      have hw203_0 := hx203_0
      cases e203
      replace hx203_0 := (HB.out.cell (jG w _ hx203_0)).trans hx203_0
      replace p203 := eq_true p203
      replace q203 := eq_true q203
      obtain ⟨Ao12, co12, eo12⟩ := kM HO_8.out
      (first | subst eo12 | (injection eo12 with f1_ f2_ f3_; have f4_ := f1_.symm; have f5_ := f3_.symm; clear f1_ f2_ f3_; subst f4_; subst f5_))
      refine start_ (n := 8) (S := fun w' => w'.cell? ⟨gb199, 0, none⟩ = some (.int .i64 a0_0) ∧ w'.cell? ⟨gb199, 1, none⟩ = some (.slice A0_1 l0_1.length c0_1) ∧ w'.cell? (ad203.add (x9_1).toNat) = some (.int .i64 (rd l1 x9_1))) (ds := []) #[false, false, false, false, false, false, false, false] (by kernel_rfl) rfl rfl ⟨(kV BK199.out 0).trans rfl, (kV BK199.out 1).trans rfl, (pw_cell_below HB.out hw203_0)⟩ (fun hHeld => ?_); refine with_tabW spec_l05Cut.tab5 spec_l05Cut.bits5 (fun HT_ HW_ => ?_)
      generalize wr.drew = w11 at HO_8 BK199 HB hx203_0 hHeld ⊢
      refine zp 1 (some 20) #[false, true, false, false, false, false, false, false] HT_.out ?_
      refine zp 2 (some 21) #[false, true, true, false, false, false, false, false] HT_.out ?_
      refine zp 3 (some 22) #[false, true, true, true, false, false, false, false] HT_.out ?_
      refine zp 4 (some 23) #[false, true, true, true, true, false, false, false] HT_.out ?_
      refine ze 0 (some 19) #[true, true, true, true, true, false, false, false] HT_.out HW_.out hHeld ?_
      refine ze 5 (some 24) #[true, true, true, true, true, true, false, false] HT_.out HW_.out hHeld ?_
      refine one_ (i := 6) (N := some 25) #[true, true, true, true, true, true, true, false] rfl rfl (one_of HT_.out (by kernel_rfl)) (by decide) (fun K hK => ?_)
      refine goes_ Tryd.func153 (by kernel_rfl) rfl #[.agg #[.int .i64 a0_0, .slice A0_1 l0_1.length c0_1], .slice Ao12 x8_1.length co12, .int .i64 (rd l1 x9_1)] (by rfl) rfl rfl zg ?_
      with_reducible refine (spec_l03First.calls k1 a0_0 _ _ l0_1 _ _ x8_1 (rd l1 x9_1) t204 _ ?side1 ?side2 ?side3 ?side4 A9.out).mono ?_
      (case side1 => exact zS (kO HR0_1.out HB.out))
      (case side2 => exact HC0_1.out)
      (case side3 => exact zS (kB HO_8.out).2.2)
      (case side4 => exact (kB HO_8.out).2.1)
      rintro e w13 ⟨rfl, hb⟩
      refine ⟨_, rfl, ?_⟩
      replace HO_8 := zA (kL (zP HO_8.out) hb)
      replace BK199 := zA (zB1 BK199.out hb)
      replace HB := zA (kQ (zT HB.out GE199.out) hb)
      (try clear hb)
      (try clear hb2)
      (try clear hk)
      (try clear hi)
      (try clear hgw)
      refine hK.out _ _ ⟨(kV BK199.out 0).trans rfl, (kV BK199.out 1).trans rfl, (pw_cell_below HB.out hw203_0)⟩ (fun hHeld => ?_)
      clear hK K
      refine norm_ (a' := ?_) ?_ ?_
      rotate_left
      ·show Act.put _ (some 25) _ = _
       simp only [Act.put, zL, zM, zN, i64_w, i32_w]
       rfl
      refine zp 7 (some 10) #[true, true, true, true, true, true, true, true] HT_.out ?_
      refine done_ (done_of HT_.out (by kernel_rfl)) ?_
      try go_wp2
      go_ret2
      exact ⟨_, zr, zn, zT HB.out GE199.out⟩
     rw [if_neg c10] at H
     have c10b0 : decide (t204 < 0) = false := decide_eq_false c10
     clear c10
     obtain ⟨t205, A14, H⟩ := zb H
     try dsimp only at H
     have H' := zA H
     clear H
     try go_wp2
     replace HO_8 := zA (zH HO_8.out)
     replace BK199 := zA (zK BK199.out)
     replace HB := zA (zD HB.out)
     have p203 : 0 ≤ (x9_1 : Int) := zd
     have q203 : x9_1 < (l1.length : Int) := zd
     obtain ⟨ad203, e203, hx203_0⟩ := Kd.at_int HR1.out x9_1 p203 q203
     have hw203_0 := hx203_0
     cases e203
     replace hx203_0 := (HB.out.cell (jG w _ hx203_0)).trans hx203_0
     replace p203 := eq_true p203
     replace q203 := eq_true q203
     obtain ⟨Ao16, co16, eo16⟩ := kM HO_8.out
     (first | subst eo16 | (injection eo16 with f1_ f2_ f3_; have f4_ := f1_.symm; have f5_ := f3_.symm; clear f1_ f2_ f3_; subst f4_; subst f5_))
     refine start_ (n := 8) (S := fun w' => w'.cell? ⟨gb199, 0, none⟩ = some (.int .i64 a0_0) ∧ w'.cell? ⟨gb199, 1, none⟩ = some (.slice A0_1 l0_1.length c0_1) ∧ w'.cell? (ad203.add (x9_1).toNat) = some (.int .i64 (rd l1 x9_1))) (ds := []) #[false, false, false, false, false, false, false, false] (by kernel_rfl) rfl rfl ⟨(kV BK199.out 0).trans rfl, (kV BK199.out 1).trans rfl, (pw_cell_below HB.out hw203_0)⟩ (fun hHeld => ?_); refine with_tabW spec_l05Cut.tab5 spec_l05Cut.bits5 (fun HT_ HW_ => ?_)
     generalize wr.drew = w15 at HO_8 BK199 HB hx203_0 hHeld ⊢
     refine zp 1 (some 20) #[false, true, false, false, false, false, false, false] HT_.out ?_
     refine zp 2 (some 21) #[false, true, true, false, false, false, false, false] HT_.out ?_
     refine zp 3 (some 22) #[false, true, true, true, false, false, false, false] HT_.out ?_
     refine zp 4 (some 23) #[false, true, true, true, true, false, false, false] HT_.out ?_
     refine ze 0 (some 19) #[true, true, true, true, true, false, false, false] HT_.out HW_.out hHeld ?_
     refine ze 5 (some 24) #[true, true, true, true, true, true, false, false] HT_.out HW_.out hHeld ?_
     refine one_ (i := 6) (N := some 25) #[true, true, true, true, true, true, true, false] rfl rfl (one_of HT_.out (by kernel_rfl)) (by decide) (fun K hK => ?_)
     refine goes_ Tryd.func153 (by kernel_rfl) rfl #[.agg #[.int .i64 a0_0, .slice A0_1 l0_1.length c0_1], .slice Ao16 x8_1.length co16, .int .i64 (rd l1 x9_1)] (by rfl) rfl rfl zg ?_
     with_reducible refine (spec_l03First.calls k1 a0_0 _ _ l0_1 _ _ x8_1 (rd l1 x9_1) t204 _ ?side1 ?side2 ?side3 ?side4 A9.out).mono ?_
     (case side1 => exact zS (kO HR0_1.out HB.out))
     (case side2 => exact HC0_1.out)
     (case side3 => exact zS (kB HO_8.out).2.2)
     (case side4 => exact (kB HO_8.out).2.1)
     rintro e w17 ⟨rfl, hb⟩
     refine ⟨_, rfl, ?_⟩
     replace HO_8 := zA (kL (zP HO_8.out) hb)
     replace BK199 := zA (zB1 BK199.out hb)
     replace HB := zA (kQ (zT HB.out GE199.out) hb)
     (try clear hb)
     (try clear hb2)
     (try clear hk)
     (try clear hi)
     (try clear hgw)
     refine hK.out _ _ ⟨(kV BK199.out 0).trans rfl, (kV BK199.out 1).trans rfl, (pw_cell_below HB.out hw203_0)⟩ (fun hHeld => ?_)
     clear hK K
     refine norm_ (a' := ?_) ?_ ?_
     rotate_left
     ·show Act.put _ (some 25) _ = _
      simp only [Act.put, zL, zM, zN, i64_w, i32_w]
      rfl
     refine zp 7 (some 10) #[true, true, true, true, true, true, true, true] HT_.out ?_
     refine done_ (done_of HT_.out (by kernel_rfl)) ?_
     try go_wp2_with (first | (refine zO (some 30) Tryd.func154 #[.slice Ao16 x8_1.length co16, .int .i64 t204] ?_; (with_reducible refine (spec_l03Without.calls _ _ x8_1 t204 t205 _ ?side1 ?side2 A14.out).mono ?_); (case side1 => exact zS (kB HO_8.out).2.2); (case side2 => exact (kB HO_8.out).2.1); rintro e w18 ⟨v206, rfl, ho0, hb⟩; refine ⟨_, rfl, ?_⟩; have HO207 := zA (kI (kF ho0 (kH (zP HO_8.out))) (kP (zT HB.out GE199.out))); replace HO_8 := zA (kE (zP HO_8.out) (kC ho0) hb); replace BK199 := zA (zB1 BK199.out hb); replace HB := zA (kQ (zT HB.out GE199.out) hb); (try clear hb); (try clear ho0)))
     go_roundg k1
     case measure => have := HK1.out; omega
     case rel => exact ⟨(t205), (wrap64 (x9_1 + 1)), zs, H', ⟨by have := HK1.out; omega⟩, ⟨zPM HO207.out (fun _ hk => trivial)⟩, ⟨zR BK199.out⟩, ⟨zT HB.out GE199.out⟩⟩
    rw [if_neg c8] at H
    exact absurd H (by simp)
   rw [if_neg c7] at H
   have c7b0 : decide (x9_1 < (l1.length : Int)) = false := decide_eq_false c7
   clear c7
   simp only [Option.some.injEq, Prod.mk.injEq] at H
   obtain ⟨rfl, rfl⟩ := H
   go_wp2
   go_ret2
   exact ⟨_, zr, zP HO_8.out, zT HB.out GE199.out⟩

/-! ### spec_l05Independent: function 161 -/
mutual
def spec_l05Independent.l0 : Nat → List Int → List Int → Int → Int → List Int → Option (Bool)
 | 0, _, _, _, _, _ => none
 | k + 1, x1, x2, x7, x209000, x209001 => if x7 < (x1.length : Int) then (spec_l05Independent.l1 k x1 x2 x7 0 x209000 x209001) else (some true)
def spec_l05Independent.l1 : Nat → List Int → List Int → Int → Int → Int → List Int → Option (Bool)
 | 0, _, _, _, _, _, _ => none
 | k + 1, x1, x2, x7, x8, x209000, x209001 => if x8 < (x2.length : Int) then (if 0 ≤ x7 then (if x7 < (x1.length : Int) then (if 0 ≤ x8 then ((spec_l02Dep.f x209000 x209001 (rd x1 x7) (rd x2 x8)).bind fun t211 => (if t211 = true then (some false) else (spec_l05Independent.l1 k x1 x2 x7 (wrap64 (x8 + 1)) x209000 x209001))) else (none)) else (none)) else (none)) else (spec_l05Independent.l0 k x1 x2 (wrap64 (x7 + 1)) x209000 x209001)
end
def spec_l05Independent.f (k : Nat) (a0_0 : Int) (l0_1 : List Int) (l1 : List Int) (l2 : List Int) : Option (Bool) := spec_l05Independent.l0 k l1 l2 0 a0_0 l0_1

def spec_l05Independent.T7 : Bool × List (List Nat × List Nat) := (true, [([], []), ([], []), ([], []), ([1, 2], [1, 2]), ([3], [3]), ([], []), ([], []), ([5, 6], [5, 6]), ([7], [7]), ([0, 4, 8], [0, 4, 8])])
def spec_l05Independent.B7 : List Nat := [0, 0, 0, 6, 14, 0, 0, 96, 224, 511]
theorem spec_l05Independent.tab7 : rtab .any (opsOf Tryd.f161 7) = spec_l05Independent.T7 := by kernel_rfl
theorem spec_l05Independent.bits7 : waitsOk spec_l05Independent.T7.2 spec_l05Independent.B7 = true := by kernel_rfl
set_option maxHeartbeats 8000000 in
set_option maxRecDepth 100000 in
theorem spec_l05Independent.calls (k : Nat) (a0_0 : Int) (A0_1 : Option Addr) (c0_1 : Nat) (l0_1 : List Int) (A1 : Option Addr) (c1 : Nat) (l1 : List Int) (A2 : Option Addr) (c2 : Nat) (l2 : List Int) (r : Bool) (w : World) (hr0_1 : Kd.C (Kd.int .i64) w A0_1 l0_1.length l0_1) (hc0_1 : l0_1.length ≤ c0_1) (hr1 : Kd.C (Kd.int .i64) w A1 l1.length l1) (hc1 : l1.length ≤ c1) (hr2 : Kd.C (Kd.int .i64) w A2 l2.length l2) (hc2 : l2.length ≤ c2) (h : spec_l05Independent.f k a0_0 l0_1 l1 l2 = some r) :
  Calls Tryd.prog 161 #[.agg #[.int .i64 a0_0, .slice A0_1 l0_1.length c0_1], .slice A1 l1.length c1, .slice A2 l2.length c2] w fun e w' => e = .returned (.bool r) ∧ Below w.heap.size w w' := by
 have hu29 := Tryd.underlying29
 have HR0_1 := zA hr0_1
 have HC0_1 := zA hc0_1
 clear hr0_1 hc0_1
 have HR1 := zA hr1
 have HC1 := zA hc1
 clear hr1 hc1
 have HR2 := zA hr2
 have HC2 := zA hc2
 clear hr2 hc2
 have HB := zA (kW w.heap.size w)
 have H := h
 unfold spec_l05Independent.f at H
 clear h
 have H' := zA H
 clear H
 go_enter Tryd.func161, Tryd.ntmps161
 go_wp2_with (first | (refine zBE 3 #[.int .i64 a0_0, .slice A0_1 l0_1.length c0_1] 29 ?_; intro gb208 hg w4 hbox hb; have BK208 := zA (hbox); have GW208 := zA (zBH hg HB.out); have GE208 := zA (zBH hg HB.out); replace HB := zA (kQ (zQ HB.out) hb); clear hb hbox hg))
 go_loopg [7] k (fun kq v7 w' => ∃ (x7_1 : Int), v7 = .int .i64 x7_1 ∧ Aside0 (spec_l05Independent.l0 kq l1 l2 x7_1 a0_0 l0_1 = some r) ∧ Aside0 (kq ≤ k) ∧ Aside0 (w'.heap[gb208]? = some (.cells #[.int .i64 a0_0, (.slice A0_1 l0_1.length c0_1)] 29 (0, 0))) ∧ Aside0 (Below w.heap.size w w'))
 case atStart => exact ⟨(0), zs, H', ⟨Nat.le_refl _⟩, ⟨zR BK208.out⟩, ⟨zT HB.out GE208.out⟩⟩
 case round =>
  clear H'
  try clear c1
  try clear c2
  obtain ⟨x7_1, rfl, HA, HK1, BK208, HB⟩ := hrel
  cases gk with
  | zero => exact absurd HA.out (by simp [spec_l05Independent.l0])
  | succ k1 =>
   have H := HA.out
   clear HA
   simp only [spec_l05Independent.l0] at H
   by_cases c5 : x7_1 < (l1.length : Int)
   ·rw [if_pos c5] at H
    have c5b0 : decide (x7_1 < (l1.length : Int)) = true := decide_eq_true c5
    clear c5
    have H' := zA H
    clear H
    go_wp2
    go_loopg [8] k1 (fun kq v8 w' => ∃ (x8_2 : Int), v8 = .int .i64 x8_2 ∧ Aside0 (spec_l05Independent.l1 kq l1 l2 x7_1 x8_2 a0_0 l0_1 = some r) ∧ Aside0 (kq ≤ k1) ∧ Aside0 (w'.heap[gb208]? = some (.cells #[.int .i64 a0_0, (.slice A0_1 l0_1.length c0_1)] 29 (0, 0))) ∧ Aside0 (Below w.heap.size w w'))
    case atStart => exact ⟨(0), zs, H', ⟨Nat.le_refl _⟩, ⟨zR BK208.out⟩, ⟨zT HB.out GE208.out⟩⟩
    case round =>
     clear H'
     try clear c1
     try clear c2
     try clear c5
     obtain ⟨x8_2, rfl, HA, HK2, BK208, HB⟩ := hrel
     cases gk with
     | zero => exact absurd HA.out (by simp [spec_l05Independent.l1])
     | succ k2 =>
      have H := HA.out
      clear HA
      simp only [spec_l05Independent.l1] at H
      by_cases c6 : x8_2 < (l2.length : Int)
      ·rw [if_pos c6] at H
       have c6b0 : decide (x8_2 < (l2.length : Int)) = true := decide_eq_true c6
       clear c6
       by_cases c7 : 0 ≤ x7_1
       ·rw [if_pos c7] at H
        have c7b0 : decide (0 ≤ x7_1) = true := decide_eq_true c7
        clear c7
        by_cases c8 : x7_1 < (l1.length : Int)
        ·rw [if_pos c8] at H
         have c8b0 : decide (x7_1 < (l1.length : Int)) = true := decide_eq_true c8
         clear c8
         by_cases c9 : 0 ≤ x8_2
         ·rw [if_pos c9] at H
          have c9b0 : decide (0 ≤ x8_2) = true := decide_eq_true c9
          clear c9
          obtain ⟨t211, A10, H⟩ := zb H
          try dsimp only at H
          by_cases c11 : t211 = true
          ·subst c11
           rw [if_pos rfl] at H
           obtain rfl := Option.some.inj H
           try go_wp2
           replace BK208 := zA (zK BK208.out)
           replace HB := zA (zD HB.out)
           have p209 : 0 ≤ (x7_1 : Int) := zd
           have q209 : x7_1 < (l1.length : Int) := zd
           obtain ⟨ad209, e209, hx209_0⟩ := Kd.at_int HR1.out x7_1 p209 q209
           have hw209_0 := hx209_0
           cases e209
           replace hx209_0 := (HB.out.cell (jG w _ hx209_0)).trans hx209_0
           replace p209 := eq_true p209
           replace q209 := eq_true q209
           have p210 : 0 ≤ (x8_2 : Int) := zd
           have q210 : x8_2 < (l2.length : Int) := zd
           obtain ⟨ad210, e210, hx210_0⟩ := Kd.at_int HR2.out x8_2 p210 q210
           have hw210_0 := hx210_0
           cases e210
           replace hx210_0 := (HB.out.cell (jG w _ hx210_0)).trans hx210_0
           replace p210 := eq_true p210
           replace q210 := eq_true q210
           refine start_ (n := 10) (S := fun w' => w'.cell? ⟨gb208, 0, none⟩ = some (.int .i64 a0_0) ∧ w'.cell? ⟨gb208, 1, none⟩ = some (.slice A0_1 l0_1.length c0_1) ∧ w'.cell? (ad209.add (x7_1).toNat) = some (.int .i64 (rd l1 x7_1)) ∧ w'.cell? (ad210.add (x8_2).toNat) = some (.int .i64 (rd l2 x8_2))) (ds := []) #[false, false, false, false, false, false, false, false, false, false] (by kernel_rfl) rfl rfl ⟨(kV BK208.out 0).trans rfl, (kV BK208.out 1).trans rfl, (pw_cell_below HB.out hw209_0), (pw_cell_below HB.out hw210_0)⟩ (fun hHeld => ?_); refine with_tabW spec_l05Independent.tab7 spec_l05Independent.bits7 (fun HT_ HW_ => ?_)
           generalize wr.drew = w12 at BK208 HB hx209_0 hx210_0 hHeld ⊢
           refine zp 1 (some 22) #[false, true, false, false, false, false, false, false, false, false] HT_.out ?_
           refine zp 2 (some 23) #[false, true, true, false, false, false, false, false, false, false] HT_.out ?_
           refine zp 3 (some 24) #[false, true, true, true, false, false, false, false, false, false] HT_.out ?_
           refine zp 5 (some 26) #[false, true, true, true, false, true, false, false, false, false] HT_.out ?_
           refine zp 6 (some 27) #[false, true, true, true, false, true, true, false, false, false] HT_.out ?_
           refine zp 7 (some 28) #[false, true, true, true, false, true, true, true, false, false] HT_.out ?_
           refine zf 0 (some 21) #[true, true, true, true, false, true, true, true, false, false] HT_.out HW_.out hHeld ?_
           refine zf 4 (some 25) #[true, true, true, true, true, true, true, true, false, false] HT_.out HW_.out hHeld ?_
           refine zf 8 (some 29) #[true, true, true, true, true, true, true, true, true, false] HT_.out HW_.out hHeld ?_
           refine one_ (i := 9) (N := some 30) #[true, true, true, true, true, true, true, true, true, true] rfl rfl (one_of HT_.out (by kernel_rfl)) (by decide) (fun K hK => ?_)
           refine goes_ Tryd.func184 (by kernel_rfl) rfl #[.agg #[.int .i64 a0_0, .slice A0_1 l0_1.length c0_1], .int .i64 (rd l1 x7_1), .int .i64 (rd l2 x8_2)] (by rfl) rfl rfl zg ?_
           with_reducible refine (spec_l02Dep.calls a0_0 _ _ l0_1 (rd l1 x7_1) (rd l2 x8_2) true _ ?side1 ?side2 A10.out).mono ?_
           (case side1 => exact zS (kO HR0_1.out HB.out))
           (case side2 => exact HC0_1.out)
           rintro e w13 ⟨rfl, hb⟩
           refine ⟨_, rfl, ?_⟩
           replace BK208 := zA (zB1 BK208.out hb)
           replace HB := zA (kQ (zT HB.out GE208.out) hb)
           (try clear hb)
           (try clear hb2)
           (try clear hk)
           (try clear hi)
           (try clear hgw)
           refine hK.out _ _ ⟨(kV BK208.out 0).trans rfl, (kV BK208.out 1).trans rfl, (pw_cell_below HB.out hw209_0), (pw_cell_below HB.out hw210_0)⟩ (fun hHeld => ?_)
           clear hK K
           refine norm_ (a' := ?_) ?_ ?_
           rotate_left
           ·show Act.put _ (some 30) _ = _
            simp only [Act.put, zL, zM, zN, i64_w, i32_w]
            rfl
           refine done_ (done_of HT_.out (by kernel_rfl)) ?_
           try go_wp2
           go_ret
           exact ⟨zr, zT HB.out GE208.out⟩
          replace c11 := Bool.eq_false_iff.mpr c11
          subst c11
          rw [if_neg (show ¬ (false = true) by decide)] at H
          have H' := zA H
          clear H
          try go_wp2
          replace BK208 := zA (zK BK208.out)
          replace HB := zA (zD HB.out)
          have p209 : 0 ≤ (x7_1 : Int) := zd
          have q209 : x7_1 < (l1.length : Int) := zd
          obtain ⟨ad209, e209, hx209_0⟩ := Kd.at_int HR1.out x7_1 p209 q209
          have hw209_0 := hx209_0
          cases e209
          replace hx209_0 := (HB.out.cell (jG w _ hx209_0)).trans hx209_0
          replace p209 := eq_true p209
          replace q209 := eq_true q209
          have p210 : 0 ≤ (x8_2 : Int) := zd
          have q210 : x8_2 < (l2.length : Int) := zd
          obtain ⟨ad210, e210, hx210_0⟩ := Kd.at_int HR2.out x8_2 p210 q210
          have hw210_0 := hx210_0
          cases e210
          replace hx210_0 := (HB.out.cell (jG w _ hx210_0)).trans hx210_0
          replace p210 := eq_true p210
          replace q210 := eq_true q210
          refine start_ (n := 10) (S := fun w' => w'.cell? ⟨gb208, 0, none⟩ = some (.int .i64 a0_0) ∧ w'.cell? ⟨gb208, 1, none⟩ = some (.slice A0_1 l0_1.length c0_1) ∧ w'.cell? (ad209.add (x7_1).toNat) = some (.int .i64 (rd l1 x7_1)) ∧ w'.cell? (ad210.add (x8_2).toNat) = some (.int .i64 (rd l2 x8_2))) (ds := []) #[false, false, false, false, false, false, false, false, false, false] (by kernel_rfl) rfl rfl ⟨(kV BK208.out 0).trans rfl, (kV BK208.out 1).trans rfl, (pw_cell_below HB.out hw209_0), (pw_cell_below HB.out hw210_0)⟩ (fun hHeld => ?_); refine with_tabW spec_l05Independent.tab7 spec_l05Independent.bits7 (fun HT_ HW_ => ?_)
          generalize wr.drew = w14 at BK208 HB hx209_0 hx210_0 hHeld ⊢
          refine zp 1 (some 22) #[false, true, false, false, false, false, false, false, false, false] HT_.out ?_
          refine zp 2 (some 23) #[false, true, true, false, false, false, false, false, false, false] HT_.out ?_
          refine zp 3 (some 24) #[false, true, true, true, false, false, false, false, false, false] HT_.out ?_
          refine zp 5 (some 26) #[false, true, true, true, false, true, false, false, false, false] HT_.out ?_
          refine zp 6 (some 27) #[false, true, true, true, false, true, true, false, false, false] HT_.out ?_
          refine zp 7 (some 28) #[false, true, true, true, false, true, true, true, false, false] HT_.out ?_
          refine zf 0 (some 21) #[true, true, true, true, false, true, true, true, false, false] HT_.out HW_.out hHeld ?_
          refine zf 4 (some 25) #[true, true, true, true, true, true, true, true, false, false] HT_.out HW_.out hHeld ?_
          refine zf 8 (some 29) #[true, true, true, true, true, true, true, true, true, false] HT_.out HW_.out hHeld ?_
          refine one_ (i := 9) (N := some 30) #[true, true, true, true, true, true, true, true, true, true] rfl rfl (one_of HT_.out (by kernel_rfl)) (by decide) (fun K hK => ?_)
          refine goes_ Tryd.func184 (by kernel_rfl) rfl #[.agg #[.int .i64 a0_0, .slice A0_1 l0_1.length c0_1], .int .i64 (rd l1 x7_1), .int .i64 (rd l2 x8_2)] (by rfl) rfl rfl zg ?_
          with_reducible refine (spec_l02Dep.calls a0_0 _ _ l0_1 (rd l1 x7_1) (rd l2 x8_2) false _ ?side1 ?side2 A10.out).mono ?_
          (case side1 => exact zS (kO HR0_1.out HB.out))
          (case side2 => exact HC0_1.out)
          rintro e w15 ⟨rfl, hb⟩
          refine ⟨_, rfl, ?_⟩
          replace BK208 := zA (zB1 BK208.out hb)
          replace HB := zA (kQ (zT HB.out GE208.out) hb)
          (try clear hb)
          (try clear hb2)
          (try clear hk)
          (try clear hi)
          (try clear hgw)
          refine hK.out _ _ ⟨(kV BK208.out 0).trans rfl, (kV BK208.out 1).trans rfl, (pw_cell_below HB.out hw209_0), (pw_cell_below HB.out hw210_0)⟩ (fun hHeld => ?_)
          clear hK K
          refine norm_ (a' := ?_) ?_ ?_
          rotate_left
          ·show Act.put _ (some 30) _ = _
           simp only [Act.put, zL, zM, zN, i64_w, i32_w]
           rfl
          refine done_ (done_of HT_.out (by kernel_rfl)) ?_
          try go_wp2
          go_roundg k2
          case measure => have := HK1.out; have := HK2.out; omega
          case rel => exact ⟨(wrap64 (x8_2 + 1)), zs, H', ⟨by have := HK1.out; have := HK2.out; omega⟩, ⟨zR BK208.out⟩, ⟨zT HB.out GE208.out⟩⟩
         rw [if_neg c9] at H
         exact absurd H (by simp)
        rw [if_neg c8] at H
        exact absurd H (by simp)
       rw [if_neg c7] at H
       exact absurd H (by simp)
      rw [if_neg c6] at H
      have c6b0 : decide (x8_2 < (l2.length : Int)) = false := decide_eq_false c6
      clear c6
      have H' := zA H
      clear H
      go_wp2
      go_roundg k2
      case measure => have := HK1.out; have := HK2.out; omega
      case rel => exact ⟨(wrap64 (x7_1 + 1)), zs, H', ⟨by have := HK1.out; have := HK2.out; omega⟩, ⟨zR BK208.out⟩, ⟨zT HB.out GE208.out⟩⟩
   rw [if_neg c5] at H
   have c5b0 : decide (x7_1 < (l1.length : Int)) = false := decide_eq_false c5
   clear c5
   obtain rfl := Option.some.inj H
   go_wp2
   go_ret
   exact ⟨zr, zT HB.out GE208.out⟩

/-! ### spec_l05Join: function 91 -/
def spec_l05Join.f (k : Nat) (a0_0 : Int) (l0_1 : List Int) (l1 : List Int) (l2 : List Int) : Option (List Int × Bool) := (spec_l05Meet.f k a0_0 l0_1 l1 l2).bind fun t213 => ((spec_l05Cut.f k a0_0 l0_1 t213 l1).bind fun bt216 => ((spec_l05Cut.f k a0_0 l0_1 t213 l2).bind fun bt220 => ((spec_l05Independent.f k a0_0 l0_1 bt216.1 bt220.1).bind fun t224 => (if t224 = true then (if t213.length + bt216.1.length < 17592186044416 then ((some (t213 ++ bt216.1 : List Int)).bind fun y225 => (if y225.length + bt220.1.length < 17592186044416 then (some ((y225 ++ bt220.1), true)) else (none))) else (none)) else (some (([] : List Int), false))))))

set_option maxHeartbeats 8000000 in
set_option maxRecDepth 100000 in
theorem spec_l05Join.calls (k : Nat) (a0_0 : Int) (A0_1 : Option Addr) (c0_1 : Nat) (l0_1 : List Int) (A1 : Option Addr) (c1 : Nat) (l1 : List Int) (A2 : Option Addr) (c2 : Nat) (l2 : List Int) (r1 : List Int) (r2 : Bool) (w : World) (hr0_1 : Kd.C (Kd.int .i64) w A0_1 l0_1.length l0_1) (hc0_1 : l0_1.length ≤ c0_1) (hr1 : Kd.C (Kd.int .i64) w A1 l1.length l1) (hc1 : l1.length ≤ c1) (hr2 : Kd.C (Kd.int .i64) w A2 l2.length l2) (hc2 : l2.length ≤ c2) (h : spec_l05Join.f k a0_0 l0_1 l1 l2 = some (r1, r2)) :
  Calls Tryd.prog 91 #[.agg #[.int .i64 a0_0, .slice A0_1 l0_1.length c0_1], .slice A1 l1.length c1, .slice A2 l2.length c2] w fun e w' => ∃ v0_ : Value, e = .returned (.tuple #[v0_, .bool r2]) ∧ Kd.R (Kd.int .i64) 2 w' w.heap.size (fun _ => True) v0_ r1 ∧ Below w.heap.size w w' := by
 have hu29 := Tryd.underlying29
 have HR0_1 := zA hr0_1
 have HC0_1 := zA hc0_1
 clear hr0_1 hc0_1
 have HR1 := zA hr1
 have HC1 := zA hc1
 clear hr1 hc1
 have HR2 := zA hr2
 have HC2 := zA hc2
 clear hr2 hc2
 have HB := zA (kW w.heap.size w)
 have H := h
 unfold spec_l05Join.f at H
 clear h
 obtain ⟨t213, A4, H⟩ := zb H
 try dsimp only at H
 obtain ⟨⟨t216, t219⟩, A5, H⟩ := zb H
 try dsimp only at H
 obtain ⟨⟨t220, t223⟩, A6, H⟩ := zb H
 try dsimp only at H
 obtain ⟨t224, A7, H⟩ := zb H
 try dsimp only at H
 by_cases c8 : t224 = true
 ·subst c8
  rw [if_pos rfl] at H
  by_cases c9 : t213.length + t216.length < 17592186044416
  ·rw [if_pos c9] at H
   have LMc9 := zA c9
   clear c9
   obtain ⟨y225, hy225⟩ : ∃ y_ : List Int, y_ = (t213 ++ t216) := ⟨_, rfl⟩
   replace H : (if y225.length + t220.length < 17592186044416 then (some ((y225 ++ t220), true)) else (none)) = some (r1, r2) := zy hy225 H
   have Ny225 := zA hy225
   clear hy225
   by_cases c10 : y225.length + t220.length < 17592186044416
   ·rw [if_pos c10] at H
    have LMc10 := zA c10
    clear c10
    obtain ⟨y228, hy228⟩ : ∃ y_ : List Int, y_ = (y225 ++ t220) := ⟨_, rfl⟩
    replace H : (some (y228, true)) = some (r1, r2) := zy hy228 H
    have Ny228 := zA hy228
    clear hy228
    simp only [Option.some.injEq, Prod.mk.injEq] at H
    obtain ⟨rfl, rfl⟩ := H
    go_enter Tryd.func91, Tryd.ntmps91
    go_wp2_with (first | (refine zBE 3 #[.int .i64 a0_0, .slice A0_1 l0_1.length c0_1] 29 ?_; intro gb212 hg w11 hbox hb; have BK212 := zA (hbox); have GW212 := zA (zBH hg HB.out); have GE212 := zA (zBH hg HB.out); replace HB := zA (kQ (zQ HB.out) hb); clear hb hbox hg; obtain ⟨hcz12_0, hcz12_1, hfz12_0, hfz12_1⟩ := zB3 BK212.out) | (refine zO (some 16) Tryd.func81 #[.agg #[.int .i64 a0_0, .slice A0_1 l0_1.length c0_1], .slice A1 l1.length c1, .slice A2 l2.length c2] ?_; (with_reducible refine (spec_l05Meet.calls k a0_0 _ _ l0_1 _ _ l1 _ _ l2 t213 _ ?side1 ?side2 ?side3 ?side4 ?side5 ?side6 A4.out).mono ?_); (case side1 => exact zS (kO HR0_1.out HB.out)); (case side2 => exact HC0_1.out); (case side3 => exact zS (kO HR1.out HB.out)); (case side4 => exact HC1.out); (case side5 => exact zS (kO HR2.out HB.out)); (case side6 => exact HC2.out); rintro e w13 ⟨v214, rfl, ho0, hb⟩; refine ⟨_, rfl, ?_⟩; have HO215 := zA (kI ho0 (kP (zT HB.out GE212.out))); replace BK212 := zA (zB1 BK212.out hb); replace HB := zA (kQ (zT HB.out GE212.out) hb); (try clear hb); (try clear ho0); obtain ⟨hcz14_0, hcz14_1, hfz14_0, hfz14_1⟩ := zB3 BK212.out; obtain ⟨Ao15, co15, eo15⟩ := kM HO215.out; subst eo15) | (refine zO (some 21) Tryd.func82 #[.agg #[.int .i64 a0_0, .slice A0_1 l0_1.length c0_1], .slice Ao15 t213.length co15, .slice A1 l1.length c1] ?_; (with_reducible refine (spec_l05Cut.calls k a0_0 _ _ l0_1 _ _ t213 _ _ l1 t216 t219 _ ?side1 ?side2 ?side3 ?side4 ?side5 ?side6 A5.out).mono ?_); (case side1 => exact zS (kO HR0_1.out HB.out)); (case side2 => exact HC0_1.out); (case side3 => exact zS (kB HO215.out).2.2); (case side4 => exact (kB HO215.out).2.1); (case side5 => exact zS (kO HR1.out HB.out)); (case side6 => exact HC1.out); rintro e w16 ⟨v217, rfl, ho0, hb⟩; refine ⟨_, rfl, ?_⟩; have HO218 := zA (kI (kF ho0 (kH (zP HO215.out))) (kP (zT HB.out GE212.out))); replace HO215 := zA (kE (zP HO215.out) (kC ho0) hb); replace BK212 := zA (zB1 BK212.out hb); replace HB := zA (kQ (zT HB.out GE212.out) hb); (try clear hb); (try clear ho0); obtain ⟨hcz17_0, hcz17_1, hfz17_0, hfz17_1⟩ := zB3 BK212.out) | (refine zO (some 28) Tryd.func82 #[.agg #[.int .i64 a0_0, .slice A0_1 l0_1.length c0_1], .slice Ao15 t213.length co15, .slice A2 l2.length c2] ?_; (with_reducible refine (spec_l05Cut.calls k a0_0 _ _ l0_1 _ _ t213 _ _ l2 t220 t223 _ ?side1 ?side2 ?side3 ?side4 ?side5 ?side6 A6.out).mono ?_); (case side1 => exact zS (kO HR0_1.out HB.out)); (case side2 => exact HC0_1.out); (case side3 => exact zS (kB HO215.out).2.2); (case side4 => exact (kB HO215.out).2.1); (case side5 => exact zS (kO HR2.out HB.out)); (case side6 => exact HC2.out); rintro e w18 ⟨v221, rfl, ho0, hb⟩; refine ⟨_, rfl, ?_⟩; have HO222 := zA (kI (kF (kF ho0 (kH (zP HO215.out))) (kH (zP HO218.out))) (kP (zT HB.out GE212.out))); replace HO215 := zA (kE (zP HO215.out) (kC ho0) hb); replace HO218 := zA (kE (zP HO218.out) (kC ho0) hb); replace BK212 := zA (zB1 BK212.out hb); replace HB := zA (kQ (zT HB.out GE212.out) hb); (try clear hb); (try clear ho0); obtain ⟨hcz19_0, hcz19_1, hfz19_0, hfz19_1⟩ := zB3 BK212.out; obtain ⟨Ao20, co20, eo20⟩ := kM HO218.out; subst eo20; obtain ⟨Ao21, co21, eo21⟩ := kM HO222.out; subst eo21) | (refine zO (some 34) Tryd.func161 #[.agg #[.int .i64 a0_0, .slice A0_1 l0_1.length c0_1], .slice Ao20 t216.length co20, .slice Ao21 t220.length co21] ?_; (with_reducible refine (spec_l05Independent.calls k a0_0 _ _ l0_1 _ _ t216 _ _ t220 true _ ?side1 ?side2 ?side3 ?side4 ?side5 ?side6 A7.out).mono ?_); (case side1 => exact zS (kO HR0_1.out HB.out)); (case side2 => exact HC0_1.out); (case side3 => exact zS (kB HO218.out).2.2); (case side4 => exact (kB HO218.out).2.1); (case side5 => exact zS (kB HO222.out).2.2); (case side6 => exact (kB HO222.out).2.1); rintro e w22 ⟨rfl, hb⟩; refine ⟨_, rfl, ?_⟩; replace HO215 := zA (kL (zP HO215.out) hb); replace HO218 := zA (kL (zP HO218.out) hb); replace HO222 := zA (kL (zP HO222.out) hb); replace BK212 := zA (zB1 BK212.out hb); replace HB := zA (kQ (zT HB.out GE212.out) hb); (try clear hb)) | ((with_reducible refine gate_builtin (b := .append) (xs := #[.tmp 36, .tmp 37]) rfl ?_); at_builtin; refine Kd.R_append_rows (Kd.int .i64) (w0 := w) w.heap.size rfl (.tmp 36) (.tmp 37) 22 2 (.int .i64 0) 8 rfl Tryd.underlying22 info2 rfl (by decide) (by omega) (.slice Ao15 t213.length co15) t213 t216 _ _ _ (fun k_ => some k_ ≠ (.slice Ao20 t216.length co20 : Value).ownBlock ∧ some k_ ≠ (.slice Ao21 t220.length co21 : Value).ownBlock) (fun _ => False) rfl rfl ?aO ?aR (fun _ _ h => h) (fun _ h => h.elim) ?aF ?aB ?aS ?aL ?_; (case aR => exact zS (kB HO218.out).2.2); (case aB => exact (zT HB.out GE212.out)); (case aF => exact (fun k_ hk => ⟨jF (kH (zP HO218.out)) k_ hk, jF (kH (zP HO222.out)) k_ hk⟩)); (case aO => exact (by (with_reducible repeat (first | apply zF | apply zG | apply zH)); exact kA HO215.out (fun _ hk => ⟨hk.1.2, hk.2⟩))); (case aS => exact (kP (zT HB.out GE212.out))); (case aL => have := LMc9.out; omega); intro v226 w23 ho hb hg hat; rw [← Ny225.out] at ho; replace BK212 := zA (blk_grown (g := gb212) (o := .cells #[.int .i64 a0_0, .slice A0_1 l0_1.length c0_1] 29 (0, 0)) (zR BK212.out) hg (Kd.R_ne HO215.out BK212.out (by decide))); replace HO218 := zA (Kd.R_after (ok := (fun k_ => some k_ ≠ (.slice Ao21 t220.length co21 : Value).ownBlock)) (by (with_reducible repeat (first | apply zF | apply zG | apply zH)); exact kA HO218.out (fun _ hk => ⟨hk.2, hk.1.2⟩)) hg hat); replace HO222 := zA (Kd.R_after (ok := (fun k_ => some k_ ≠ (.slice Ao20 t216.length co20 : Value).ownBlock)) (by (with_reducible repeat (first | apply zF | apply zG | apply zH)); exact kA HO222.out (fun _ hk => ⟨hk.2, hk.1.2⟩)) hg hat); replace HB := zA (hb); have HO227 := zA (ho); clear HO215; clear ho hb hg hat) | ((with_reducible refine gate_builtin (b := .append) (xs := #[.tmp 38, .tmp 39]) rfl ?_); at_builtin; refine Kd.R_append_rows (Kd.int .i64) (w0 := w) w.heap.size rfl (.tmp 38) (.tmp 39) 22 2 (.int .i64 0) 8 rfl Tryd.underlying22 info2 rfl (by decide) (by omega) v226 y225 t220 _ _ _ (fun k_ => some k_ ≠ (.slice Ao20 t216.length co20 : Value).ownBlock ∧ some k_ ≠ (.slice Ao21 t220.length co21 : Value).ownBlock) (fun _ => False) rfl rfl ?aO ?aR (fun _ _ h => h) (fun _ h => h.elim) ?aF ?aB ?aS ?aL ?_; (case aR => exact zS (kB HO222.out).2.2); (case aB => exact (zT HB.out GE212.out)); (case aF => exact (fun k_ hk => ⟨jF (kH (zP HO218.out)) k_ hk, jF (kH (zP HO222.out)) k_ hk⟩)); (case aO => exact (zP HO227.out)); (case aS => exact (kP (zT HB.out GE212.out))); (case aL => have := LMc10.out; omega); intro v229 w24 ho hb hg hat; rw [← Ny228.out] at ho; replace BK212 := zA (blk_grown (g := gb212) (o := .cells #[.int .i64 a0_0, .slice A0_1 l0_1.length c0_1] 29 (0, 0)) (zR BK212.out) hg (Kd.R_ne HO227.out BK212.out (by decide))); replace HO218 := zA (Kd.R_after (ok := (fun k_ => some k_ ≠ (.slice Ao21 t220.length co21 : Value).ownBlock)) (zP HO218.out) hg hat); replace HO222 := zA (Kd.R_after (ok := (fun k_ => some k_ ≠ (.slice Ao20 t216.length co20 : Value).ownBlock)) (zP HO222.out) hg hat); replace HB := zA (hb); have HO230 := zA (ho); clear HO227; clear ho hb hg hat))
    go_ret2
    exact ⟨_, zr, by (with_reducible repeat (first | apply zF | apply zG | apply zH)); exact kA HO230.out (fun _ hk => trivial), zT HB.out GE212.out⟩
   rw [if_neg c10] at H
   exact absurd H (by simp)
  rw [if_neg c9] at H
  exact absurd H (by simp)
 replace c8 := Bool.eq_false_iff.mpr c8
 subst c8
 rw [if_neg (show ¬ (false = true) by decide)] at H
 simp only [Option.some.injEq, Prod.mk.injEq] at H
 obtain ⟨rfl, rfl⟩ := H
 go_enter Tryd.func91, Tryd.ntmps91
 go_wp2_with (first | (refine zBE 3 #[.int .i64 a0_0, .slice A0_1 l0_1.length c0_1] 29 ?_; intro gb212 hg w25 hbox hb; have BK212 := zA (hbox); have GW212 := zA (zBH hg HB.out); have GE212 := zA (zBH hg HB.out); replace HB := zA (kQ (zQ HB.out) hb); clear hb hbox hg; obtain ⟨hcz26_0, hcz26_1, hfz26_0, hfz26_1⟩ := zB3 BK212.out) | (refine zO (some 16) Tryd.func81 #[.agg #[.int .i64 a0_0, .slice A0_1 l0_1.length c0_1], .slice A1 l1.length c1, .slice A2 l2.length c2] ?_; (with_reducible refine (spec_l05Meet.calls k a0_0 _ _ l0_1 _ _ l1 _ _ l2 t213 _ ?side1 ?side2 ?side3 ?side4 ?side5 ?side6 A4.out).mono ?_); (case side1 => exact zS (kO HR0_1.out HB.out)); (case side2 => exact HC0_1.out); (case side3 => exact zS (kO HR1.out HB.out)); (case side4 => exact HC1.out); (case side5 => exact zS (kO HR2.out HB.out)); (case side6 => exact HC2.out); rintro e w27 ⟨v214, rfl, ho0, hb⟩; refine ⟨_, rfl, ?_⟩; have HO215 := zA (kI ho0 (kP (zT HB.out GE212.out))); replace BK212 := zA (zB1 BK212.out hb); replace HB := zA (kQ (zT HB.out GE212.out) hb); (try clear hb); (try clear ho0); obtain ⟨hcz28_0, hcz28_1, hfz28_0, hfz28_1⟩ := zB3 BK212.out; obtain ⟨Ao29, co29, eo29⟩ := kM HO215.out; subst eo29) | (refine zO (some 21) Tryd.func82 #[.agg #[.int .i64 a0_0, .slice A0_1 l0_1.length c0_1], .slice Ao29 t213.length co29, .slice A1 l1.length c1] ?_; (with_reducible refine (spec_l05Cut.calls k a0_0 _ _ l0_1 _ _ t213 _ _ l1 t216 t219 _ ?side1 ?side2 ?side3 ?side4 ?side5 ?side6 A5.out).mono ?_); (case side1 => exact zS (kO HR0_1.out HB.out)); (case side2 => exact HC0_1.out); (case side3 => exact zS (kB HO215.out).2.2); (case side4 => exact (kB HO215.out).2.1); (case side5 => exact zS (kO HR1.out HB.out)); (case side6 => exact HC1.out); rintro e w30 ⟨v217, rfl, ho0, hb⟩; refine ⟨_, rfl, ?_⟩; have HO218 := zA (kI (kF ho0 (kH (zP HO215.out))) (kP (zT HB.out GE212.out))); replace HO215 := zA (kE (zP HO215.out) (kC ho0) hb); replace BK212 := zA (zB1 BK212.out hb); replace HB := zA (kQ (zT HB.out GE212.out) hb); (try clear hb); (try clear ho0); obtain ⟨hcz31_0, hcz31_1, hfz31_0, hfz31_1⟩ := zB3 BK212.out) | (refine zO (some 28) Tryd.func82 #[.agg #[.int .i64 a0_0, .slice A0_1 l0_1.length c0_1], .slice Ao29 t213.length co29, .slice A2 l2.length c2] ?_; (with_reducible refine (spec_l05Cut.calls k a0_0 _ _ l0_1 _ _ t213 _ _ l2 t220 t223 _ ?side1 ?side2 ?side3 ?side4 ?side5 ?side6 A6.out).mono ?_); (case side1 => exact zS (kO HR0_1.out HB.out)); (case side2 => exact HC0_1.out); (case side3 => exact zS (kB HO215.out).2.2); (case side4 => exact (kB HO215.out).2.1); (case side5 => exact zS (kO HR2.out HB.out)); (case side6 => exact HC2.out); rintro e w32 ⟨v221, rfl, ho0, hb⟩; refine ⟨_, rfl, ?_⟩; have HO222 := zA (kI (kF (kF ho0 (kH (zP HO215.out))) (kH (zP HO218.out))) (kP (zT HB.out GE212.out))); replace HO215 := zA (kE (zP HO215.out) (kC ho0) hb); replace HO218 := zA (kE (zP HO218.out) (kC ho0) hb); replace BK212 := zA (zB1 BK212.out hb); replace HB := zA (kQ (zT HB.out GE212.out) hb); (try clear hb); (try clear ho0); obtain ⟨hcz33_0, hcz33_1, hfz33_0, hfz33_1⟩ := zB3 BK212.out; obtain ⟨Ao34, co34, eo34⟩ := kM HO218.out; subst eo34; obtain ⟨Ao35, co35, eo35⟩ := kM HO222.out; subst eo35) | (refine zO (some 34) Tryd.func161 #[.agg #[.int .i64 a0_0, .slice A0_1 l0_1.length c0_1], .slice Ao34 t216.length co34, .slice Ao35 t220.length co35] ?_; (with_reducible refine (spec_l05Independent.calls k a0_0 _ _ l0_1 _ _ t216 _ _ t220 false _ ?side1 ?side2 ?side3 ?side4 ?side5 ?side6 A7.out).mono ?_); (case side1 => exact zS (kO HR0_1.out HB.out)); (case side2 => exact HC0_1.out); (case side3 => exact zS (kB HO218.out).2.2); (case side4 => exact (kB HO218.out).2.1); (case side5 => exact zS (kB HO222.out).2.2); (case side6 => exact (kB HO222.out).2.1); rintro e w36 ⟨rfl, hb⟩; refine ⟨_, rfl, ?_⟩; replace HO215 := zA (kL (zP HO215.out) hb); replace HO218 := zA (kL (zP HO218.out) hb); replace HO222 := zA (kL (zP HO222.out) hb); replace BK212 := zA (zB1 BK212.out hb); replace HB := zA (kQ (zT HB.out GE212.out) hb); (try clear hb)))
 go_ret2
 exact ⟨_, zr, zn, zT HB.out GE212.out⟩

/-! ### spec_CommonContinuation: function 30 -/
mutual
def spec_CommonContinuation.l0 : Nat → List (List Int) → Int → Int → List Int → Option (List Int × Int)
 | 0, _, _, _, _ => none
 | k + 1, x1, x6, x232000, x232001 => if x6 < (x1.length : Int) then (if 0 ≤ x6 then ((spec_l03Word.f k x232000 (rd_L1 x1 x6)).bind fun t234 => (if t234 = true then (spec_CommonContinuation.l0 k x1 (wrap64 (x6 + 1)) x232000 x232001) else (some (([] : List Int), 2)))) else (none)) else (spec_CommonContinuation.l1 k x1 (([] : List Int)) 0 x232000 x232001)
def spec_CommonContinuation.l1 : Nat → List (List Int) → List Int → Int → Int → List Int → Option (List Int × Int)
 | 0, _, _, _, _, _ => none
 | k + 1, x1, x7, x8, x232000, x232001 => if x8 < (x1.length : Int) then (if 0 ≤ x8 then ((spec_l05Join.f k x232000 x232001 x7 (rd_L1 x1 x8)).bind fun bt239 => (if bt239.2 = true then (spec_CommonContinuation.l1 k x1 bt239.1 (wrap64 (x8 + 1)) x232000 x232001) else (some (([] : List Int), 4)))) else (none)) else (if (x7.length : Int) > 24 then (some (([] : List Int), 3)) else ((spec_l03Normal.f k x232000 x232001 x7).bind fun t243 => (some (t243, 0))))
end
def spec_CommonContinuation.f (k : Nat) (a0_0 : Int) (l0_1 : List Int) (l1 : List (List Int)) : Option (List Int × Int) := (spec_l02Is.f k a0_0 l0_1).bind fun t232 => (if t232 = true then (if (l1.length : Int) > 24 then (some (([] : List Int), 2)) else (spec_CommonContinuation.l0 k l1 0 a0_0 l0_1)) else (some (([] : List Int), 1)))

def spec_CommonContinuation.T8 : Bool × List (List Nat × List Nat) := (true, [([], []), ([0], [0]), ([], []), ([], []), ([2, 3], [2, 3]), ([4], [4]), ([1, 5], [1, 5]), ([6], [6])])
def spec_CommonContinuation.B8 : List Nat := [0, 1, 0, 0, 12, 28, 63, 127]
theorem spec_CommonContinuation.tab8 : rtab .any (opsOf Tryd.f30 8) = spec_CommonContinuation.T8 := by kernel_rfl
theorem spec_CommonContinuation.bits8 : waitsOk spec_CommonContinuation.T8.2 spec_CommonContinuation.B8 = true := by kernel_rfl
def spec_CommonContinuation.T14 : Bool × List (List Nat × List Nat) := (true, [([], []), ([], []), ([], []), ([], []), ([2, 3], [2, 3]), ([4], [4]), ([0, 1, 5], [0, 1, 5]), ([6], [6]), ([7], [7]), ([7], [7]), ([8, 6, 0, 1, 2, 3, 4, 5, 6, 7, 8], [8]), ([9, 10, 0, 1, 2, 3, 4, 5, 6, 7, 8, 9, 10], [9])])
def spec_CommonContinuation.B14 : List Nat := [0, 0, 0, 0, 12, 28, 63, 127, 255, 255, 511, 2047]
theorem spec_CommonContinuation.tab14 : rtab .any (opsOf Tryd.f30 14) = spec_CommonContinuation.T14 := by kernel_rfl
theorem spec_CommonContinuation.bits14 : waitsOk spec_CommonContinuation.T14.2 spec_CommonContinuation.B14 = true := by kernel_rfl
set_option maxHeartbeats 8000000 in
set_option maxRecDepth 100000 in
theorem spec_CommonContinuation.calls (k : Nat) (a0_0 : Int) (A0_1 : Option Addr) (c0_1 : Nat) (l0_1 : List Int) (A1 : Option Addr) (c1 : Nat) (l1 : List (List Int)) (r1 : List Int) (r2 : Int) (w : World) (hr0_1 : Kd.C (Kd.int .i64) w A0_1 l0_1.length l0_1) (hc0_1 : l0_1.length ≤ c0_1) (hr1 : Kd.C (Kd.slice 2 (Kd.int .i64)) w A1 l1.length l1) (hc1 : l1.length ≤ c1) (h : spec_CommonContinuation.f k a0_0 l0_1 l1 = some (r1, r2)) :
  Calls Tryd.prog 30 #[.agg #[.int .i64 a0_0, .slice A0_1 l0_1.length c0_1], .slice A1 l1.length c1] w fun e w' => ∃ v0_ : Value, e = .returned (.tuple #[v0_, .int .i64 r2]) ∧ Kd.R (Kd.int .i64) 2 w' w.heap.size (fun _ => True) v0_ r1 ∧ Below w.heap.size w w' := by
 have hu29 := Tryd.underlying29
 have HR0_1 := zA hr0_1
 have HC0_1 := zA hc0_1
 clear hr0_1 hc0_1
 have HR1 := zA hr1
 have HC1 := zA hc1
 clear hr1 hc1
 have HB := zA (kW w.heap.size w)
 have H := h
 unfold spec_CommonContinuation.f at H
 clear h
 obtain ⟨t232, A3, H⟩ := zb H
 try dsimp only at H
 by_cases c4 : t232 = true
 ·subst c4
  rw [if_pos rfl] at H
  by_cases c5 : (l1.length : Int) > 24
  ·rw [if_pos c5] at H
   have c5b0 : decide (24 < (l1.length : Int)) = true := decide_eq_true c5
   have c5b1 : decide (24 < l1.length) = true := decide_eq_true (by omega)
   clear c5
   simp only [Option.some.injEq, Prod.mk.injEq] at H
   obtain ⟨rfl, rfl⟩ := H
   go_enter Tryd.func30, Tryd.ntmps30
   go_wp2_with (first | (refine zBE 2 #[.int .i64 a0_0, .slice A0_1 l0_1.length c0_1] 29 ?_; intro gb231 hg w6 hbox hb; have BK231 := zA (hbox); have GW231 := zA (zBH hg HB.out); have GE231 := zA (zBH hg HB.out); replace HB := zA (kQ (zQ HB.out) hb); clear hb hbox hg; obtain ⟨hcz7_0, hcz7_1, hfz7_0, hfz7_1⟩ := zB3 BK231.out) | (refine zO (some 12) Tryd.func89 #[.agg #[.int .i64 a0_0, .slice A0_1 l0_1.length c0_1]] ?_; (with_reducible refine (spec_l02Is.calls k a0_0 _ _ l0_1 true _ ?side1 ?side2 A3.out).mono ?_); (case side1 => exact zS (kO HR0_1.out HB.out)); (case side2 => exact HC0_1.out); rintro e w8 ⟨rfl, hb⟩; refine ⟨_, rfl, ?_⟩; replace BK231 := zA (zB1 BK231.out hb); replace HB := zA (kQ (zT HB.out GE231.out) hb); (try clear hb)))
   go_ret2
   exact ⟨_, zr, zn, zT HB.out GE231.out⟩
  rw [if_neg c5] at H
  have c5b0 : decide (24 < (l1.length : Int)) = false := decide_eq_false c5
  have c5b1 : decide (24 < l1.length) = false := decide_eq_false (by omega)
  clear c5
  have H' := zA H
  clear H
  go_enter Tryd.func30, Tryd.ntmps30
  go_wp2_with (first | (refine zBE 2 #[.int .i64 a0_0, .slice A0_1 l0_1.length c0_1] 29 ?_; intro gb231 hg w9 hbox hb; have BK231 := zA (hbox); have GW231 := zA (zBH hg HB.out); have GE231 := zA (zBH hg HB.out); replace HB := zA (kQ (zQ HB.out) hb); clear hb hbox hg; obtain ⟨hcz10_0, hcz10_1, hfz10_0, hfz10_1⟩ := zB3 BK231.out) | (refine zO (some 12) Tryd.func89 #[.agg #[.int .i64 a0_0, .slice A0_1 l0_1.length c0_1]] ?_; (with_reducible refine (spec_l02Is.calls k a0_0 _ _ l0_1 true _ ?side1 ?side2 A3.out).mono ?_); (case side1 => exact zS (kO HR0_1.out HB.out)); (case side2 => exact HC0_1.out); rintro e w11 ⟨rfl, hb⟩; refine ⟨_, rfl, ?_⟩; replace BK231 := zA (zB1 BK231.out hb); replace HB := zA (kQ (zT HB.out GE231.out) hb); (try clear hb)))
  go_loopg [6] k (fun kq v6 w' => ∃ (x6_1 : Int), v6 = .int .i64 x6_1 ∧ Aside0 (spec_CommonContinuation.l0 kq l1 x6_1 a0_0 l0_1 = some (r1, r2)) ∧ Aside0 (kq ≤ k) ∧ Aside0 (w'.heap[gb231]? = some (.cells #[.int .i64 a0_0, (.slice A0_1 l0_1.length c0_1)] 29 (0, 0))) ∧ Aside0 (Below w.heap.size w w'))
  case atStart => exact ⟨(0), zs, H', ⟨Nat.le_refl _⟩, ⟨zR BK231.out⟩, ⟨zT HB.out GE231.out⟩⟩
  case round =>
   clear H'
   try clear c1
   try clear c3
   try clear c4
   try clear c5
   try clear c8
   try clear hcz10_0
   try clear hcz10_1
   try clear hcz7_0
   try clear hcz7_1
   try clear hfz10_0
   try clear hfz10_1
   try clear hfz7_0
   try clear hfz7_1
   obtain ⟨x6_1, rfl, HA, HK1, BK231, HB⟩ := hrel
   cases gk with
   | zero => exact absurd HA.out (by simp [spec_CommonContinuation.l0])
   | succ k1 =>
    have H := HA.out
    clear HA
    simp only [spec_CommonContinuation.l0] at H
    by_cases c12 : x6_1 < (l1.length : Int)
    ·rw [if_pos c12] at H
     have c12b0 : decide (x6_1 < (l1.length : Int)) = true := decide_eq_true c12
     clear c12
     by_cases c13 : 0 ≤ x6_1
     ·rw [if_pos c13] at H
      have c13b0 : decide (0 ≤ x6_1) = true := decide_eq_true c13
      clear c13
      obtain ⟨t234, A14, H⟩ := zb H
      try dsimp only at H
      by_cases c15 : t234 = true
      ·subst c15
       rw [if_pos rfl] at H
       have H' := zA H
       clear H
       try go_wp2
       replace BK231 := zA (zK BK231.out)
       replace HB := zA (zD HB.out)
       have p233 : 0 ≤ (x6_1 : Int) := zd
       have q233 : x6_1 < (l1.length : Int) := zd
       obtain ⟨ad233, A233_0, c233_0, e233, hx233_0, hl233_0, hi233_0⟩ := at_L1 HR1.out x6_1 p233 q233
       have hw233_0 := hx233_0
       cases e233
       replace hx233_0 := (HB.out.cell (jG w _ hx233_0)).trans hx233_0
       have HR233_0 := zA hi233_0
       have HC233_0 := zA hl233_0
       clear hi233_0 hl233_0
       replace p233 := eq_true p233
       replace q233 := eq_true q233
       refine start_ (n := 8) (S := fun w' => w'.cell? ⟨gb231, 0, none⟩ = some (.int .i64 a0_0) ∧ w'.cell? ⟨gb231, 1, none⟩ = some (.slice A0_1 l0_1.length c0_1) ∧ w'.cell? (ad233.add (x6_1).toNat) = some (.slice A233_0 (rd_L1 l1 x6_1).length c233_0)) (ds := []) #[false, false, false, false, false, false, false, false] (by kernel_rfl) rfl rfl ⟨(kV BK231.out 0).trans rfl, (kV BK231.out 1).trans rfl, (pw_cell_below HB.out hw233_0)⟩ (fun hHeld => ?_); refine with_tabW spec_CommonContinuation.tab8 spec_CommonContinuation.bits8 (fun HT_ HW_ => ?_)
       generalize wr.drew = w16 at BK231 HB HR233_0 hx233_0 hHeld ⊢
       refine zp 0 (some 23) #[true, false, false, false, false, false, false, false] HT_.out ?_
       refine zp 2 (some 25) #[true, false, true, false, false, false, false, false] HT_.out ?_
       refine zp 3 (some 26) #[true, false, true, true, false, false, false, false] HT_.out ?_
       refine zp 4 (some 27) #[true, false, true, true, true, false, false, false] HT_.out ?_
       refine ze 1 (some 24) #[true, true, true, true, true, false, false, false] HT_.out HW_.out hHeld ?_
       refine ze 5 (some 28) #[true, true, true, true, true, true, false, false] HT_.out HW_.out hHeld ?_
       refine one_ (i := 6) (N := some 29) #[true, true, true, true, true, true, true, false] rfl rfl (one_of HT_.out (by kernel_rfl)) (by decide) (fun K hK => ?_)
       refine goes_ Tryd.func90 (by kernel_rfl) rfl #[.int .i64 a0_0, .slice A233_0 (rd_L1 l1 x6_1).length c233_0] (by rfl) rfl rfl zg ?_
       with_reducible refine (spec_l03Word.calls k1 a0_0 _ _ (rd_L1 l1 x6_1) true _ ?side1 ?side2 A14.out).mono ?_
       (case side1 => exact zS (kO HR233_0.out HB.out))
       (case side2 => exact HC233_0.out)
       rintro e w' ⟨rfl, ⟨nd, rfl⟩⟩
       refine ⟨_, rfl, ?_⟩
       refine hK.out _ _ ⟨(kV BK231.out 0).trans rfl, (kV BK231.out 1).trans rfl, (pw_cell_below HB.out hw233_0)⟩ (fun hHeld => ?_)
       clear hK K
       refine norm_ (a' := ?_) ?_ ?_
       rotate_left
       ·show Act.put _ (some 29) _ = _
        simp only [Act.put, zL, zM, zN, i64_w, i32_w]
        rfl
       refine zp 7 (some 30) #[true, true, true, true, true, true, true, true] HT_.out ?_
       refine done_ (done_of HT_.out (by kernel_rfl)) ?_
       try go_wp2
       go_roundg k1
       case measure => have := HK1.out; omega
       case rel => exact ⟨(wrap64 (x6_1 + 1)), zs, H', ⟨by have := HK1.out; omega⟩, ⟨zR BK231.out⟩, ⟨zT HB.out GE231.out⟩⟩
      replace c15 := Bool.eq_false_iff.mpr c15
      subst c15
      rw [if_neg (show ¬ (false = true) by decide)] at H
      simp only [Option.some.injEq, Prod.mk.injEq] at H
      obtain ⟨rfl, rfl⟩ := H
      try go_wp2
      replace BK231 := zA (zK BK231.out)
      replace HB := zA (zD HB.out)
      have p233 : 0 ≤ (x6_1 : Int) := zd
      have q233 : x6_1 < (l1.length : Int) := zd
      obtain ⟨ad233, A233_0, c233_0, e233, hx233_0, hl233_0, hi233_0⟩ := at_L1 HR1.out x6_1 p233 q233
      have hw233_0 := hx233_0
      cases e233
      replace hx233_0 := (HB.out.cell (jG w _ hx233_0)).trans hx233_0
      have HR233_0 := zA hi233_0
      have HC233_0 := zA hl233_0
      clear hi233_0 hl233_0
      replace p233 := eq_true p233
      replace q233 := eq_true q233
      refine start_ (n := 8) (S := fun w' => w'.cell? ⟨gb231, 0, none⟩ = some (.int .i64 a0_0) ∧ w'.cell? ⟨gb231, 1, none⟩ = some (.slice A0_1 l0_1.length c0_1) ∧ w'.cell? (ad233.add (x6_1).toNat) = some (.slice A233_0 (rd_L1 l1 x6_1).length c233_0)) (ds := []) #[false, false, false, false, false, false, false, false] (by kernel_rfl) rfl rfl ⟨(kV BK231.out 0).trans rfl, (kV BK231.out 1).trans rfl, (pw_cell_below HB.out hw233_0)⟩ (fun hHeld => ?_); refine with_tabW spec_CommonContinuation.tab8 spec_CommonContinuation.bits8 (fun HT_ HW_ => ?_)
      generalize wr.drew = w17 at BK231 HB HR233_0 hx233_0 hHeld ⊢
      refine zp 0 (some 23) #[true, false, false, false, false, false, false, false] HT_.out ?_
      refine zp 2 (some 25) #[true, false, true, false, false, false, false, false] HT_.out ?_
      refine zp 3 (some 26) #[true, false, true, true, false, false, false, false] HT_.out ?_
      refine zp 4 (some 27) #[true, false, true, true, true, false, false, false] HT_.out ?_
      refine ze 1 (some 24) #[true, true, true, true, true, false, false, false] HT_.out HW_.out hHeld ?_
      refine ze 5 (some 28) #[true, true, true, true, true, true, false, false] HT_.out HW_.out hHeld ?_
      refine one_ (i := 6) (N := some 29) #[true, true, true, true, true, true, true, false] rfl rfl (one_of HT_.out (by kernel_rfl)) (by decide) (fun K hK => ?_)
      refine goes_ Tryd.func90 (by kernel_rfl) rfl #[.int .i64 a0_0, .slice A233_0 (rd_L1 l1 x6_1).length c233_0] (by rfl) rfl rfl zg ?_
      with_reducible refine (spec_l03Word.calls k1 a0_0 _ _ (rd_L1 l1 x6_1) false _ ?side1 ?side2 A14.out).mono ?_
      (case side1 => exact zS (kO HR233_0.out HB.out))
      (case side2 => exact HC233_0.out)
      rintro e w' ⟨rfl, ⟨nd, rfl⟩⟩
      refine ⟨_, rfl, ?_⟩
      refine hK.out _ _ ⟨(kV BK231.out 0).trans rfl, (kV BK231.out 1).trans rfl, (pw_cell_below HB.out hw233_0)⟩ (fun hHeld => ?_)
      clear hK K
      refine norm_ (a' := ?_) ?_ ?_
      rotate_left
      ·show Act.put _ (some 29) _ = _
       simp only [Act.put, zL, zM, zN, i64_w, i32_w]
       rfl
      refine zp 7 (some 30) #[true, true, true, true, true, true, true, true] HT_.out ?_
      refine done_ (done_of HT_.out (by kernel_rfl)) ?_
      try go_wp2
      go_ret2
      exact ⟨_, zr, zn, zT HB.out GE231.out⟩
     rw [if_neg c13] at H
     exact absurd H (by simp)
    rw [if_neg c12] at H
    have c12b0 : decide (x6_1 < (l1.length : Int)) = false := decide_eq_false c12
    clear c12
    obtain ⟨y235, hy235⟩ : ∃ y_ : List Int, y_ = (([] : List Int)) := ⟨_, rfl⟩
    replace H : (spec_CommonContinuation.l1 k1 l1 y235 0 a0_0 l0_1) = some (r1, r2) := zy hy235 H
    have Ny235 := zA hy235
    clear hy235
    have H' := zA H
    clear H
    go_wp2_with (first | ((with_reducible refine kS (N := 31) rfl ?_); refine Kd.R_lit (Kd.int .i64) _ 2 ?hg (N := 31) ?hd (xs := ([] : List Int)) (inner := []) (ok := fun _ => True) (okp := fun _ => True) ?hr ?hp (fun _ hk => hk) trivial (kW _ _) (Nat.le_refl _) (by simp) ?_; (case hd => rfl); (case hg => rfl); (case hr => first | (go_simp; done) | (go_simp; rfl)); (case hp => exact (Reps.none _ _)); intro v236 w18 ho19 hb hg_ hnew_; clear hg_ hnew_; (first | rw [← Ny235.out] at ho19 | (simp only [Int.reduceToNat] at ho19; rw [← Ny235.out] at ho19)); have HO237 := zA (kI ho19 (kP (zT HB.out GE231.out))); replace BK231 := zA (zB1 BK231.out hb); replace HB := zA (kQ (zT HB.out GE231.out) hb); clear hb ho19))
    go_loopg [7, 8] k1 (fun kq v7 v8 w' => ∃ (x7_2 : List Int) (x8_2 : Int), v8 = .int .i64 x8_2 ∧ Aside0 (spec_CommonContinuation.l1 kq l1 x7_2 x8_2 a0_0 l0_1 = some (r1, r2)) ∧ Aside0 (kq ≤ k1) ∧ Aside0 (Kd.R (Kd.int .i64) 2 w' w.heap.size (fun _ => True) v7 x7_2) ∧ Aside0 (w'.heap[gb231]? = some (.cells #[.int .i64 a0_0, (.slice A0_1 l0_1.length c0_1)] 29 (0, 0))) ∧ Aside0 (Below w.heap.size w w'))
    case atStart => exact ⟨(y235), (0), zs, H', ⟨Nat.le_refl _⟩, ⟨zP HO237.out⟩, ⟨zR BK231.out⟩, ⟨zT HB.out GE231.out⟩⟩
    case round =>
     clear H'
     try clear c1
     try clear c2
     try clear hx2
     try clear c3
     try clear c4
     try clear c5
     try clear c8
     try clear c9
     try clear c12
     try clear c13
     try clear c15
     try clear hcz10_0
     try clear hcz10_1
     try clear hcz7_0
     try clear hcz7_1
     try clear hfz10_0
     try clear hfz10_1
     try clear hfz7_0
     try clear hfz7_1
     try clear hx233_0
     obtain ⟨x7_2, x8_2, rfl, HA, HK2, HO_7, BK231, HB⟩ := hrel
     cases gk with
     | zero => exact absurd HA.out (by simp [spec_CommonContinuation.l1])
     | succ k2 =>
      have H := HA.out
      clear HA
      simp only [spec_CommonContinuation.l1] at H
      by_cases c20 : x8_2 < (l1.length : Int)
      ·rw [if_pos c20] at H
       have c20b0 : decide (x8_2 < (l1.length : Int)) = true := decide_eq_true c20
       clear c20
       by_cases c21 : 0 ≤ x8_2
       ·rw [if_pos c21] at H
        have c21b0 : decide (0 ≤ x8_2) = true := decide_eq_true c21
        clear c21
        obtain ⟨⟨t239, t242⟩, A22, H⟩ := zb H
        try dsimp only at H
        by_cases c23 : t242 = true
        ·subst c23
         rw [if_pos rfl] at H
         have H' := zA H
         clear H
         try go_wp2
         replace HO_7 := zA (zH HO_7.out)
         replace BK231 := zA (zK BK231.out)
         replace HB := zA (zD HB.out)
         have p238 : 0 ≤ (x8_2 : Int) := zd
         have q238 : x8_2 < (l1.length : Int) := zd
         obtain ⟨ad238, A238_0, c238_0, e238, hx238_0, hl238_0, hi238_0⟩ := at_L1 HR1.out x8_2 p238 q238
         have hw238_0 := hx238_0
         cases e238
         replace hx238_0 := (HB.out.cell (jG w _ hx238_0)).trans hx238_0
         have HR238_0 := zA hi238_0
         have HC238_0 := zA hl238_0
         clear hi238_0 hl238_0
         replace p238 := eq_true p238
         replace q238 := eq_true q238
         obtain ⟨Ao25, co25, eo25⟩ := kM HO_7.out
         (first | subst eo25 | (injection eo25 with f1_ f2_ f3_; have f4_ := f1_.symm; have f5_ := f3_.symm; clear f1_ f2_ f3_; subst f4_; subst f5_))
         refine start_ (n := 12) (S := fun w' => w'.cell? ⟨gb231, 0, none⟩ = some (.int .i64 a0_0) ∧ w'.cell? ⟨gb231, 1, none⟩ = some (.slice A0_1 l0_1.length c0_1) ∧ w'.cell? (ad238.add (x8_2).toNat) = some (.slice A238_0 (rd_L1 l1 x8_2).length c238_0)) (ds := []) #[false, false, false, false, false, false, false, false, false, false, false, false] (by kernel_rfl) rfl rfl ⟨(kV BK231.out 0).trans rfl, (kV BK231.out 1).trans rfl, (pw_cell_below HB.out hw238_0)⟩ (fun hHeld => ?_); refine with_tabW spec_CommonContinuation.tab14 spec_CommonContinuation.bits14 (fun HT_ HW_ => ?_)
         generalize wr.drew = w24 at HO_7 BK231 HB HR238_0 hx238_0 hHeld ⊢
         refine zp 1 (some 40) #[false, true, false, false, false, false, false, false, false, false, false, false] HT_.out ?_
         refine zp 2 (some 41) #[false, true, true, false, false, false, false, false, false, false, false, false] HT_.out ?_
         refine zp 3 (some 42) #[false, true, true, true, false, false, false, false, false, false, false, false] HT_.out ?_
         refine zp 4 (some 43) #[false, true, true, true, true, false, false, false, false, false, false, false] HT_.out ?_
         refine ze 0 (some 39) #[true, true, true, true, true, false, false, false, false, false, false, false] HT_.out HW_.out hHeld ?_
         refine ze 5 (some 44) #[true, true, true, true, true, true, false, false, false, false, false, false] HT_.out HW_.out hHeld ?_
         refine one_ (i := 6) (N := some 45) #[true, true, true, true, true, true, true, false, false, false, false, false] rfl rfl (one_of HT_.out (by kernel_rfl)) (by decide) (fun K hK => ?_)
         refine goes_ Tryd.func91 (by kernel_rfl) rfl #[.agg #[.int .i64 a0_0, .slice A0_1 l0_1.length c0_1], .slice Ao25 x7_2.length co25, .slice A238_0 (rd_L1 l1 x8_2).length c238_0] (by rfl) rfl rfl zg ?_
         with_reducible refine (spec_l05Join.calls k2 a0_0 _ _ l0_1 _ _ x7_2 _ _ (rd_L1 l1 x8_2) t239 true _ ?side1 ?side2 ?side3 ?side4 ?side5 ?side6 A22.out).mono ?_
         (case side1 => exact zS (kO HR0_1.out HB.out))
         (case side2 => exact HC0_1.out)
         (case side3 => exact zS (kB HO_7.out).2.2)
         (case side4 => exact (kB HO_7.out).2.1)
         (case side5 => exact zS (kO HR238_0.out HB.out))
         (case side6 => exact HC238_0.out)
         rintro e w26 ⟨v240, rfl, ho0, hb⟩
         refine ⟨_, rfl, ?_⟩
         have HO241 := zA (kI (kF ho0 (kH (zP HO_7.out))) (kP (zT HB.out GE231.out)))
         replace HO_7 := zA (kE (zP HO_7.out) (kC ho0) hb)
         replace BK231 := zA (zB1 BK231.out hb)
         replace HB := zA (kQ (zT HB.out GE231.out) hb)
         (try clear hb)
         (try clear hb2)
         (try clear hk)
         (try clear hi)
         (try clear hgw)
         (try clear ho0)
         refine hK.out _ _ ⟨(kV BK231.out 0).trans rfl, (kV BK231.out 1).trans rfl, (pw_cell_below HB.out hw238_0)⟩ (fun hHeld => ?_)
         clear hK K
         refine norm_ (a' := ?_) ?_ ?_
         rotate_left
         ·show Act.put _ (some 45) _ = _
          simp only [Act.put, zL, zM, zN, i64_w, i32_w]
          rfl
         refine zp 7 (some 38) #[true, true, true, true, true, true, true, true, false, false, false, false] HT_.out ?_
         refine zp 8 (some 46) #[true, true, true, true, true, true, true, true, true, false, false, false] HT_.out ?_
         refine zp 9 (some 47) #[true, true, true, true, true, true, true, true, true, true, false, false] HT_.out ?_
         refine zp 10 (some 9) #[true, true, true, true, true, true, true, true, true, true, true, false] HT_.out ?_
         refine zp 11 (some 10) #[true, true, true, true, true, true, true, true, true, true, true, true] HT_.out ?_
         refine done_ (done_of HT_.out (by kernel_rfl)) ?_
         try go_wp2
         go_roundg k2
         case measure => have := HK1.out; have := HK2.out; omega
         case rel => exact ⟨(t239), (wrap64 (x8_2 + 1)), zs, H', ⟨by have := HK1.out; have := HK2.out; omega⟩, ⟨zPM HO241.out (fun _ hk => trivial)⟩, ⟨zR BK231.out⟩, ⟨zT HB.out GE231.out⟩⟩
        replace c23 := Bool.eq_false_iff.mpr c23
        subst c23
        rw [if_neg (show ¬ (false = true) by decide)] at H
        simp only [Option.some.injEq, Prod.mk.injEq] at H
        obtain ⟨rfl, rfl⟩ := H
        try go_wp2
        replace HO_7 := zA (zH HO_7.out)
        replace BK231 := zA (zK BK231.out)
        replace HB := zA (zD HB.out)
        have p238 : 0 ≤ (x8_2 : Int) := zd
        have q238 : x8_2 < (l1.length : Int) := zd
        obtain ⟨ad238, A238_0, c238_0, e238, hx238_0, hl238_0, hi238_0⟩ := at_L1 HR1.out x8_2 p238 q238
        have hw238_0 := hx238_0
        cases e238
        replace hx238_0 := (HB.out.cell (jG w _ hx238_0)).trans hx238_0
        have HR238_0 := zA hi238_0
        have HC238_0 := zA hl238_0
        clear hi238_0 hl238_0
        replace p238 := eq_true p238
        replace q238 := eq_true q238
        obtain ⟨Ao28, co28, eo28⟩ := kM HO_7.out
        (first | subst eo28 | (injection eo28 with f1_ f2_ f3_; have f4_ := f1_.symm; have f5_ := f3_.symm; clear f1_ f2_ f3_; subst f4_; subst f5_))
        refine start_ (n := 12) (S := fun w' => w'.cell? ⟨gb231, 0, none⟩ = some (.int .i64 a0_0) ∧ w'.cell? ⟨gb231, 1, none⟩ = some (.slice A0_1 l0_1.length c0_1) ∧ w'.cell? (ad238.add (x8_2).toNat) = some (.slice A238_0 (rd_L1 l1 x8_2).length c238_0)) (ds := []) #[false, false, false, false, false, false, false, false, false, false, false, false] (by kernel_rfl) rfl rfl ⟨(kV BK231.out 0).trans rfl, (kV BK231.out 1).trans rfl, (pw_cell_below HB.out hw238_0)⟩ (fun hHeld => ?_); refine with_tabW spec_CommonContinuation.tab14 spec_CommonContinuation.bits14 (fun HT_ HW_ => ?_)
        generalize wr.drew = w27 at HO_7 BK231 HB HR238_0 hx238_0 hHeld ⊢
        refine zp 1 (some 40) #[false, true, false, false, false, false, false, false, false, false, false, false] HT_.out ?_
        refine zp 2 (some 41) #[false, true, true, false, false, false, false, false, false, false, false, false] HT_.out ?_
        refine zp 3 (some 42) #[false, true, true, true, false, false, false, false, false, false, false, false] HT_.out ?_
        refine zp 4 (some 43) #[false, true, true, true, true, false, false, false, false, false, false, false] HT_.out ?_
        refine ze 0 (some 39) #[true, true, true, true, true, false, false, false, false, false, false, false] HT_.out HW_.out hHeld ?_
        refine ze 5 (some 44) #[true, true, true, true, true, true, false, false, false, false, false, false] HT_.out HW_.out hHeld ?_
        refine one_ (i := 6) (N := some 45) #[true, true, true, true, true, true, true, false, false, false, false, false] rfl rfl (one_of HT_.out (by kernel_rfl)) (by decide) (fun K hK => ?_)
        refine goes_ Tryd.func91 (by kernel_rfl) rfl #[.agg #[.int .i64 a0_0, .slice A0_1 l0_1.length c0_1], .slice Ao28 x7_2.length co28, .slice A238_0 (rd_L1 l1 x8_2).length c238_0] (by rfl) rfl rfl zg ?_
        with_reducible refine (spec_l05Join.calls k2 a0_0 _ _ l0_1 _ _ x7_2 _ _ (rd_L1 l1 x8_2) t239 false _ ?side1 ?side2 ?side3 ?side4 ?side5 ?side6 A22.out).mono ?_
        (case side1 => exact zS (kO HR0_1.out HB.out))
        (case side2 => exact HC0_1.out)
        (case side3 => exact zS (kB HO_7.out).2.2)
        (case side4 => exact (kB HO_7.out).2.1)
        (case side5 => exact zS (kO HR238_0.out HB.out))
        (case side6 => exact HC238_0.out)
        rintro e w29 ⟨v240, rfl, ho0, hb⟩
        refine ⟨_, rfl, ?_⟩
        have HO241 := zA (kI (kF ho0 (kH (zP HO_7.out))) (kP (zT HB.out GE231.out)))
        replace HO_7 := zA (kE (zP HO_7.out) (kC ho0) hb)
        replace BK231 := zA (zB1 BK231.out hb)
        replace HB := zA (kQ (zT HB.out GE231.out) hb)
        (try clear hb)
        (try clear hb2)
        (try clear hk)
        (try clear hi)
        (try clear hgw)
        (try clear ho0)
        refine hK.out _ _ ⟨(kV BK231.out 0).trans rfl, (kV BK231.out 1).trans rfl, (pw_cell_below HB.out hw238_0)⟩ (fun hHeld => ?_)
        clear hK K
        refine norm_ (a' := ?_) ?_ ?_
        rotate_left
        ·show Act.put _ (some 45) _ = _
         simp only [Act.put, zL, zM, zN, i64_w, i32_w]
         rfl
        refine zp 7 (some 38) #[true, true, true, true, true, true, true, true, false, false, false, false] HT_.out ?_
        refine zp 8 (some 46) #[true, true, true, true, true, true, true, true, true, false, false, false] HT_.out ?_
        refine zp 9 (some 47) #[true, true, true, true, true, true, true, true, true, true, false, false] HT_.out ?_
        refine zp 10 (some 9) #[true, true, true, true, true, true, true, true, true, true, true, false] HT_.out ?_
        refine zp 11 (some 10) #[true, true, true, true, true, true, true, true, true, true, true, true] HT_.out ?_
        refine done_ (done_of HT_.out (by kernel_rfl)) ?_
        try go_wp2
        go_ret2
        exact ⟨_, zr, zn, zT HB.out GE231.out⟩
       rw [if_neg c21] at H
       exact absurd H (by simp)
      rw [if_neg c20] at H
      have c20b0 : decide (x8_2 < (l1.length : Int)) = false := decide_eq_false c20
      clear c20
      by_cases c30 : (x7_2.length : Int) > 24
      ·rw [if_pos c30] at H
       have c30b0 : decide (24 < (x7_2.length : Int)) = true := decide_eq_true c30
       have c30b1 : decide (24 < x7_2.length) = true := decide_eq_true (by omega)
       clear c30
       simp only [Option.some.injEq, Prod.mk.injEq] at H
       obtain ⟨rfl, rfl⟩ := H
       obtain ⟨Ao31, co31, eo31⟩ := kM HO_7.out
       subst eo31
       go_wp2
       go_ret2
       exact ⟨_, zr, zn, zT HB.out GE231.out⟩
      rw [if_neg c30] at H
      have c30b0 : decide (24 < (x7_2.length : Int)) = false := decide_eq_false c30
      have c30b1 : decide (24 < x7_2.length) = false := decide_eq_false (by omega)
      clear c30
      obtain ⟨t243, A32, H⟩ := zb H
      try dsimp only at H
      simp only [Option.some.injEq, Prod.mk.injEq] at H
      obtain ⟨rfl, rfl⟩ := H
      obtain ⟨Ao33, co33, eo33⟩ := kM HO_7.out
      subst eo33
      obtain ⟨hcz34_0, hcz34_1, hfz34_0, hfz34_1⟩ := zB3 BK231.out
      go_wp2_with (first | (refine zO (some 56) Tryd.func83 #[.agg #[.int .i64 a0_0, .slice A0_1 l0_1.length c0_1], .slice Ao33 x7_2.length co33] ?_; (with_reducible refine (spec_l03Normal.calls k2 a0_0 _ _ l0_1 _ _ x7_2 t243 _ ?side1 ?side2 ?side3 ?side4 A32.out).mono ?_); (case side1 => exact zS (kO HR0_1.out HB.out)); (case side2 => exact HC0_1.out); (case side3 => exact zS (kB HO_7.out).2.2); (case side4 => exact (kB HO_7.out).2.1); rintro e w35 ⟨v244, rfl, ho0, hb⟩; refine ⟨_, rfl, ?_⟩; have HO245 := zA (kI (kF ho0 (kH (zP HO_7.out))) (kP (zT HB.out GE231.out))); replace HO_7 := zA (kE (zP HO_7.out) (kC ho0) hb); replace BK231 := zA (zB1 BK231.out hb); replace HB := zA (kQ (zT HB.out GE231.out) hb); (try clear hb); (try clear ho0)))
      go_ret2
      exact ⟨_, zr, by (with_reducible repeat (first | apply zF | apply zG | apply zH)); exact kA HO245.out (fun _ hk => trivial), zT HB.out GE231.out⟩
 replace c4 := Bool.eq_false_iff.mpr c4
 subst c4
 rw [if_neg (show ¬ (false = true) by decide)] at H
 simp only [Option.some.injEq, Prod.mk.injEq] at H
 obtain ⟨rfl, rfl⟩ := H
 go_enter Tryd.func30, Tryd.ntmps30
 go_wp2_with (first | (refine zBE 2 #[.int .i64 a0_0, .slice A0_1 l0_1.length c0_1] 29 ?_; intro gb231 hg w36 hbox hb; have BK231 := zA (hbox); have GW231 := zA (zBH hg HB.out); have GE231 := zA (zBH hg HB.out); replace HB := zA (kQ (zQ HB.out) hb); clear hb hbox hg; obtain ⟨hcz37_0, hcz37_1, hfz37_0, hfz37_1⟩ := zB3 BK231.out) | (refine zO (some 12) Tryd.func89 #[.agg #[.int .i64 a0_0, .slice A0_1 l0_1.length c0_1]] ?_; (with_reducible refine (spec_l02Is.calls k a0_0 _ _ l0_1 false _ ?side1 ?side2 A3.out).mono ?_); (case side1 => exact zS (kO HR0_1.out HB.out)); (case side2 => exact HC0_1.out); rintro e w38 ⟨rfl, hb⟩; refine ⟨_, rfl, ?_⟩; replace BK231 := zA (zB1 BK231.out hb); replace HB := zA (kQ (zT HB.out GE231.out) hb); (try clear hb)))
 go_ret2
 exact ⟨_, zr, zn, zT HB.out GE231.out⟩

/-! ### laws_toInt64SS: function 31 -/
def laws_toInt64SS.l0 : Nat → List (List Int) → List (List Int) → Int → Option ((List (List Int)))
 | 0, _, _, _ => none
 | k + 1, x0, x3, x4 => if x4 < (x0.length : Int) then (if 0 ≤ x4 then ((laws_toInt64S.f k (rd_L1 x0 x4)).bind fun t250 => (if x4 < (x3.length : Int) then (laws_toInt64SS.l0 k x0 (x3.set (x4 : Int).toNat t250) (wrap64 (x4 + 1))) else (none))) else (none)) else (some x3)
def laws_toInt64SS.f (k : Nat) (l0 : List (List Int)) : Option ((List (List Int))) := if 0 ≤ (l0.length : Int) then (if ((l0.length : Int) : Int).toNat ≤ 11728124029610 then (laws_toInt64SS.l0 k l0 (List.replicate ((l0.length : Int) : Int).toNat []) 0) else (none)) else (none)

set_option maxHeartbeats 8000000 in
set_option maxRecDepth 100000 in
theorem laws_toInt64SS.calls (k : Nat) (A0 : Option Addr) (c0 : Nat) (l0 : List (List Int)) (r : List (List Int)) (w : World) (hr0 : Kd.C (Kd.slice 2 (Kd.int .i64)) w A0 l0.length l0) (hc0 : l0.length ≤ c0) (h : laws_toInt64SS.f k l0 = some r) :
  Calls Tryd.prog 31 #[.slice A0 l0.length c0] w fun e w' => ∃ v0_ : Value, e = .returned (v0_) ∧ Kd.S (Kd.slice 2 (Kd.int .i64)) 22 w' w.heap.size (fun _ => True) v0_ r ∧ Below w.heap.size w w' := by
 have HR0 := zA hr0
 have HC0 := zA hc0
 clear hr0 hc0
 have HB := zA (kW w.heap.size w)
 have H := h
 unfold laws_toInt64SS.f at H
 clear h
 by_cases c2 : 0 ≤ (l0.length : Int)
 ·rw [if_pos c2] at H
  have c2b0 := eq_true c2
  have c2b1 : decide (0 ≤ (l0.length : Int)) = true := decide_eq_true c2
  clear c2
  by_cases c3 : ((l0.length : Int) : Int).toNat ≤ 11728124029610
  ·rw [if_pos c3] at H
   have c3b0 := eq_true c3
   have c3b1 : decide (((l0.length : Int) : Int).toNat ≤ 11728124029610) = true := decide_eq_true c3
   clear c3
   obtain ⟨y246, hy246⟩ : ∃ y_ : List (List Int), y_ = (List.replicate ((l0.length : Int) : Int).toNat []) := ⟨_, rfl⟩
   replace H : (laws_toInt64SS.l0 k l0 y246 0) = some r := zy hy246 H
   have Ny246 := zA hy246
   clear hy246
   have H' := zA H
   clear H
   go_enter Tryd.func31, Tryd.ntmps31
   go_wp2_with (first | ((with_reducible refine kS (N := 7) rfl ?_); refine Kd.S_make (Kd.slice 2 (Kd.int .i64)) _ 22 rfl (N := 7) rfl 26 _ _ rfl (l0.length : Int) rfl rfl Tryd.underlying26 (.slice none 0 0) 24 info22 rfl (by decide) (by omega) [] (ok := fun _ => True) (okp := fun _ => True) ⟨_, rfl, jO _ _ _ _ _⟩ (fun _ hk => hk) trivial (zd) (Nat.le_trans (Nat.mul_le_mul_right _ (zd : (l0.length : Int).toNat ≤ 11728124029610)) (by omega)) (kW _ _) (Nat.le_refl _) ?_; intro v247 w4 ho5 hb hg_ hnew_; clear hg_ hnew_; (first | rw [← Ny246.out] at ho5 | (simp only [Int.reduceToNat] at ho5; rw [← Ny246.out] at ho5)); have HO248 := zA (Kd.S_lower ho5 (kP (zQ HB.out))); replace HB := zA (kQ (zQ HB.out) hb); clear hb ho5))
   go_loopg [4] k (fun kq v4 w' => ∃ (x3_1 : List (List Int)) (x4_1 : Int), v4 = .int .i64 x4_1 ∧ Aside0 (laws_toInt64SS.l0 kq l0 x3_1 x4_1 = some r) ∧ Aside0 (kq ≤ k) ∧ Aside0 (Kd.S (Kd.slice 2 (Kd.int .i64)) 22 w' w.heap.size (fun _ => True) v247 x3_1) ∧ Aside0 (Below w.heap.size w w'))
   case atStart => exact ⟨(y246), (0), zs, H', ⟨Nat.le_refl _⟩, ⟨by (with_reducible repeat (first | apply Kd.S_alloc | apply Kd.S_drewN | apply Kd.S_drew)); exact HO248.out⟩, ⟨zQ HB.out⟩⟩
   case round =>
    clear H'
    try clear c2
    try clear c3
    obtain ⟨x3_1, x4_1, rfl, HA, HK1, HO_3, HB⟩ := hrel
    cases gk with
    | zero => exact absurd HA.out (by simp [laws_toInt64SS.l0])
    | succ k1 =>
     have H := HA.out
     clear HA
     simp only [laws_toInt64SS.l0] at H
     by_cases c6 : x4_1 < (l0.length : Int)
     ·rw [if_pos c6] at H
      have c6b0 : decide (x4_1 < (l0.length : Int)) = true := decide_eq_true c6
      clear c6
      by_cases c7 : 0 ≤ x4_1
      ·rw [if_pos c7] at H
       have c7b0 : decide (0 ≤ x4_1) = true := decide_eq_true c7
       clear c7
       obtain ⟨t250, A8, H⟩ := zb H
       try dsimp only at H
       by_cases c9 : x4_1 < (x3_1.length : Int)
       ·rw [if_pos c9] at H
        have c9b0 : decide (x4_1 < (x3_1.length : Int)) = true := decide_eq_true c9
        clear c9
        obtain ⟨y253, hy253⟩ : ∃ y_ : List (List Int), y_ = (x3_1.set (x4_1 : Int).toNat t250) := ⟨_, rfl⟩
        replace H : (laws_toInt64SS.l0 k1 l0 y253 (wrap64 (x4_1 + 1))) = some r := zy hy253 H
        have Ny253 := zA hy253
        clear hy253
        have H' := zA H
        clear H
        have p249 : 0 ≤ (x4_1 : Int) := zd
        have q249 : x4_1 < (l0.length : Int) := zd
        obtain ⟨ad249, A249_0, c249_0, e249, hx249_0, hl249_0, hi249_0⟩ := at_L1 HR0.out x4_1 p249 q249
        cases e249
        replace hx249_0 := (HB.out.cell (jG w _ hx249_0)).trans hx249_0
        have HR249_0 := zA hi249_0
        have HC249_0 := zA hl249_0
        clear hi249_0 hl249_0
        replace p249 := eq_true p249
        replace q249 := eq_true q249
        go_wp2_with (first | (refine zO (some 20) Tryd.func18 #[.slice A249_0 (rd_L1 l0 x4_1).length c249_0] ?_; (with_reducible refine (laws_toInt64S.calls k1 _ _ (rd_L1 l0 x4_1) t250 _ ?side1 ?side2 A8.out).mono ?_); (case side1 => exact zS (kO HR249_0.out HB.out)); (case side2 => exact HC249_0.out); rintro e w11 ⟨v251, rfl, ho0, hb⟩; refine ⟨_, rfl, ?_⟩; replace HO_3 := zA (Kd.S_elder' (by (with_reducible repeat (first | apply Kd.S_alloc | apply Kd.S_drewN | apply Kd.S_drew)); exact HO_3.out) (kC ho0) hb); have HO252 := zA (kI ho0 (kP (zQ HB.out))); replace HB := zA (kQ (zQ HB.out) hb); (try clear hb); (try clear ho0); have p10 : 0 ≤ (x4_1 : Int) := zd; have q10 : (x4_1 : Int) < ((x3_1.length : Int) : Int) := zd; obtain ⟨go10, co10, eo10, gb10, gl10, cl10, HG10⟩ := Kd.S_form HO_3.out (by omega); (first | cases eo10 | (injection eo10 with ea_ en_ ec_; (first | subst ea_ | (injection ea_ with ea_; subst ea_)); subst ec_; clear en_)); have GB10 := zA gb10; have GG10 := zA HG10; clear gb10 gl10 HG10; obtain ⟨_, ce10, hcl10, hM10, hcc10, hfr10, _, _⟩ := Kd.S_elem HO_3.out [] (x4_1 : Int) p10 q10; obtain ⟨ve10_0, rfl, ge10_0⟩ := hM10; have hx10_0 := hcc10 0 _ rfl; have hf10_0 := hfr10 0; (try simp only [show ((Kd.slice 2 (Kd.int .i64))).sz = 1 from rfl, Nat.mul_one, Nat.add_zero] at hx10_0); (try simp only [show ((Kd.slice 2 (Kd.int .i64))).sz = 1 from rfl, Nat.mul_one, Nat.add_zero] at hf10_0); clear hcl10 hcc10 hfr10; replace p10 := eq_true p10; replace q10 := eq_true q10; have n_ := zA (Kd.S_mono (ok' := (fun k_ => some k_ ≠ (v251 : Value).ownBlock)) HO_3.out (fun k_ hk => hk.2)); clear HO_3; have HO_3 := n_; clear n_; have HX12 := zA (show Kd.S (Kd.slice 2 (Kd.int .i64)) 22 w11 w.heap.size (fun k_ => ((fun _ => True)) k_ ∧ ¬ ((fun k_ => some k_ = (v251 : Value).ownBlock)) k_) (.slice (some ⟨go10, 0, none⟩) x3_1.length co10) x3_1 from (by (with_reducible repeat (first | apply Kd.S_alloc | apply Kd.S_drewN | apply Kd.S_drew)); exact Kd.S_mono HO_3.out (fun k_ hk => ⟨trivial, fun e_ => hk e_⟩))); obtain ⟨oki12, ce12, hcl12, hM12, hcc12, hfr12, hoki12, hH12⟩ := Kd.S_elem HX12.out [] (x4_1 : Int) (zd) (by have h_ : (x4_1 : Int) < ((x3_1.length : Int) : Int) := zd; first | exact h_ | (have e_ := (Kd.S_reads' HO_3.out).1; omega) | simpa using h_); obtain ⟨ve12_0, rfl, ge12_0⟩ := hM12; obtain ⟨Aq251, cq251, eq251⟩ := kM HO252.out; subst eq251; have HP12 := Kd.S_seg hH12 (zd) (by have h_ : (x4_1 : Int) < ((x3_1.length : Int) : Int) := zd; first | exact h_ | (have e_ := (Kd.S_reads' HO_3.out).1; omega) | simpa using h_) (seg := [(.slice Aq251 t250.length cq251)]) (j := 0) (show 1 ≤ 1 from by decide) (x' := t250) (Kd.M_row (kA (jK rfl (kA (ok' := fun k_ => ((fun _ => True)) k_ ∧ k_ ≠ go10) (Kd.R_apart' (HO252.out) (Kd.S_typed HO_3.out) (by decide)) (fun k_ hk => ⟨trivial, fun e_ => (hk.2) (by rw [e_]; rfl)⟩))) (fun _ h_ => Or.inr (h_)))) (fun _ hk => hk) (fun k_ hk_ => ((kA (ok' := fun k_ => ((fun _ => True)) k_ ∧ k_ ≠ go10) (Kd.R_apart' (HO252.out) (Kd.S_typed HO_3.out) (by decide)) (fun k_ hk => ⟨trivial, fun e_ => (hk.2) (by rw [e_]; rfl)⟩))).1 k_ hk_.symm); have hx12_0 := hcc12 0 _ rfl; (try simp only [show ((Kd.slice 2 (Kd.int .i64))).sz = 1 from rfl, Nat.mul_one, Nat.add_zero] at hx12_0); have hf12_0 := hfr12 0; (try simp only [show ((Kd.slice 2 (Kd.int .i64))).sz = 1 from rfl, Nat.mul_one, Nat.add_zero] at hf12_0); clear hcl12 hcc12 hfr12 hoki12 hH12; (try simp only [show ((Kd.slice 2 (Kd.int .i64))).sz = 1 from rfl, Nat.mul_one, Nat.add_zero] at HP12)) | ((with_reducible refine gate_store (t := 22) (p := 21) rfl ?_); refine store_event (t := 22) (p := 21) (v := ?vo_w13) (w1 := (w11.setCell ⟨go10, (x4_1 : Int).toNat, none⟩ ((.slice Aq251 t250.length cq251)))) ?hg ?ho ?hn ?hr ?_; (case ho => rfl); (case hg => rfl); (case hn => rfl); (case hr => first | (go_simp; done) | (go_simp; rfl)); intro w13 hw; have hg : w11.grownBy w13 (some go10) := (by rw [hw]; exact HP12.2); have hp_ : Kd.S (Kd.slice 2 (Kd.int .i64)) 22 w13 w.heap.size (fun _ => True) (.slice (some ⟨go10, 0, none⟩) x3_1.length co10) y253 := (by rw [hw, Ny253.out]; exact HP12.1); clear HP12; replace HO_3 := zA (hp_); replace HB := zA ((by rw [hw]; exact zE (HB.out) GB10.out : Below w.heap.size w w13)); clear HO252; clear hg hw hp_))
        go_roundg k1
        case measure => have := HK1.out; omega
        case rel => exact ⟨(y253), (wrap64 (x4_1 + 1)), zs, H', ⟨by have := HK1.out; omega⟩, ⟨by (with_reducible repeat (first | apply Kd.S_alloc | apply Kd.S_drewN | apply Kd.S_drew)); exact HO_3.out⟩, ⟨zQ HB.out⟩⟩
       rw [if_neg c9] at H
       exact absurd H (by simp)
      rw [if_neg c7] at H
      exact absurd H (by simp)
     rw [if_neg c6] at H
     have c6b0 : decide (x4_1 < (l0.length : Int)) = false := decide_eq_false c6
     clear c6
     obtain rfl := Option.some.inj H
     go_wp2
     go_ret
     exact ⟨_, zr, by (with_reducible repeat (first | apply Kd.S_alloc | apply Kd.S_drewN | apply Kd.S_drew)); exact HO_3.out, zQ HB.out⟩
  rw [if_neg c3] at H
  exact absurd H (by simp)
 rw [if_neg c2] at H
 exact absurd H (by simp)

/-! ### impl_inRange: function 111 -/
def impl_inRange.f (a0 : Int) (a1 : Int) (a2 : Int) : Option (Bool) := if a1 ≤ a0 then (some (decide (a0 ≤ a2))) else (some false)
set_option maxHeartbeats 8000000 in
set_option maxRecDepth 100000 in
theorem impl_inRange.calls (a0 : Int) (a1 : Int) (a2 : Int) (r : Bool) (w : World) (h : impl_inRange.f a0 a1 a2 = some r) :
  Calls Tryd.prog 111 #[.int .i64 a0, .int .i64 a1, .int .i64 a2] w fun e w' => e = .returned (.bool r) ∧ Drawn0 w w' := by
 have H := h
 unfold impl_inRange.f at H
 clear h
 by_cases c4 : a1 ≤ a0
 ·rw [if_pos c4] at H
  have c4b0 : decide (a1 ≤ a0) = true := decide_eq_true c4
  clear c4
  obtain rfl := Option.some.inj H
  go_enter Tryd.func111, Tryd.ntmps111
  go_wp2
  go_ret
  exact ⟨zs, by repeat (first | exact Drawn0.refl _ | apply Drawn0.step)⟩
 rw [if_neg c4] at H
 have c4b0 : decide (a1 ≤ a0) = false := decide_eq_false c4
 clear c4
 obtain rfl := Option.some.inj H
 go_enter Tryd.func111, Tryd.ntmps111
 go_wp2
 go_ret
 exact ⟨zs, by repeat (first | exact Drawn0.refl _ | apply Drawn0.step)⟩

/-! ### impl_length_int64: function 119 -/
def impl_length_int64.f (l0 : List Int) : Option (Int) := some (l0.length : Int)
set_option maxHeartbeats 8000000 in
set_option maxRecDepth 100000 in
theorem impl_length_int64.calls (A0 : Option Addr) (c0 : Nat) (l0 : List Int) (r : Int) (w : World) (hr0 : Kd.C (Kd.int .i64) w A0 l0.length l0) (hc0 : l0.length ≤ c0) (h : impl_length_int64.f l0 = some r) :
  Calls Tryd.prog 119 #[.slice A0 l0.length c0] w fun e w' => e = .returned (.int .i64 r) ∧ Drawn0 w w' := by
 have HR0 := zA hr0
 have HC0 := zA hc0
 clear hr0 hc0
 have H := h
 unfold impl_length_int64.f at H
 clear h
 obtain rfl := Option.some.inj H
 go_enter Tryd.func119, Tryd.ntmps119
 go_wp2
 go_ret
 exact ⟨zs, by repeat (first | exact Drawn0.refl _ | apply Drawn0.step)⟩

/-! ### impl_one: function 118 -/
def impl_one.f (a0 : Int) : Option (Int) := if 0 ≤ a0 then (some (shl .i64 1 a0)) else (none)
set_option maxHeartbeats 8000000 in
set_option maxRecDepth 100000 in
theorem impl_one.calls (a0 : Int) (r : Int) (w : World) (h : impl_one.f a0 = some r) :
  Calls Tryd.prog 118 #[.int .i64 a0] w fun e w' => e = .returned (.int .i64 r) ∧ Drawn0 w w' := by
 have H := h
 unfold impl_one.f at H
 clear h
 by_cases c2 : 0 ≤ a0
 ·rw [if_pos c2] at H
  have c2b0 := eq_true c2
  have c2b1 : decide (0 ≤ a0) = true := decide_eq_true c2
  clear c2
  obtain ⟨ji3, hji3⟩ : ∃ j_ : Int, (shl .i64 1 a0) = j_ := ⟨_, rfl⟩
  replace H : (some ji3) = some r := by first | (rw [hji3] at H; exact H) | (simp only [hji3] at H ⊢; exact H)
  have hji3_ : (IntKind.i64.wrap (1 * 2 ^ min a0.toNat 64)) = ji3 := hji3
  have hji3z : a0 ≤ 64 → (IntKind.i64.wrap (1 * 2 ^ a0.toNat)) = ji3 := shl_small hji3
  have hji3u : (IntKind.i64.wrap (2 ^ min a0.toNat 64)) = ji3 := by have h_ := hji3_; rw [Int.one_mul] at h_; exact h_
  have hji3v : a0 ≤ 64 → (IntKind.i64.wrap (2 ^ a0.toNat)) = ji3 := fun hle_ => by have h_ := hji3z hle_; rw [Int.one_mul] at h_; exact h_
  have hji3y : (wrap64 (1 * 2 ^ min a0.toNat 64)) = ji3 := (i64_w _).symm.trans hji3_
  have hji3x : a0 ≤ 64 → (wrap64 (1 * 2 ^ a0.toNat)) = ji3 := fun h_ => (i64_w _).symm.trans (hji3z h_)
  obtain rfl := Option.some.inj H
  go_enter Tryd.func118, Tryd.ntmps118
  go_wp2
  go_ret
  exact ⟨by first | rfl | (simp; done) | (simp only [← hji3] <;> (first | rfl | simp)) | (simp [*]; done), by repeat (first | exact Drawn0.refl _ | apply Drawn0.step)⟩
 rw [if_neg c2] at H
 exact absurd H (by simp)

-- NOT PRINTED: function 193 (slices_IndexFunc_int64_int64_193)

-- NOT PRINTED: function 169 (slices_ContainsFunc_int64_int64_169)

/-! ### impl_allIn: function 176: a contract of our own -/
def impl_allIn.f (l0 : List Int) (a1 a2 : Int) : Option Bool := some (l0.all fun x => decide (a1 ≤ x ∧ x ≤ a2))
theorem allIn_pred (l : List Int) (lo hi : Int) (B : Nat) (w : World) (hB : B + 1 < w.heap.size) (h1 : w.cell? ⟨B, 0, none⟩ = some (.int .i64 lo)) (h2 : w.cell? ⟨B + 1, 0, none⟩ = some (.int .i64 hi)) :
  PredOf 195 #[.pointer (some ⟨B, 0, none⟩), .pointer (some ⟨B + 1, 0, none⟩)] (fun x => !decide (lo ≤ x ∧ x ≤ hi)) w l := fun W x _ hb => by
 have hc1 : W.cell? ⟨B, 0, none⟩ = some (.int .i64 lo) := (hb.cell (p := ⟨B, 0, none⟩) (by simp; omega)).trans h1
 have hc2 : W.cell? ⟨B + 1, 0, none⟩ = some (.int .i64 hi) := (hb.cell (p := ⟨B + 1, 0, none⟩) (by simpa using hB)).trans h2
 clear h1 h2 hb
 show Calls Tryd.prog 195 #[.int .i64 x, .pointer (some ⟨B, 0, none⟩), .pointer (some ⟨B + 1, 0, none⟩)] W _
 by_cases c1 : lo ≤ x <;> by_cases c2 : x ≤ hi
 all_goals
  go_enter Tryd.func195, Tryd.ntmps195
  go_wp2
  go_ret
  exact ⟨by simp [c1, c2], kW _ _⟩
theorem impl_allIn.calls (A0 : Option Addr) (c0 : Nat) (l0 : List Int) (a1 : Int) (a2 : Int) (r : Bool) (w : World) (hr0 : Kd.C (Kd.int .i64) w A0 l0.length l0) (hc0 : l0.length ≤ c0) (h : impl_allIn.f l0 a1 a2 = some r) :
  Calls Tryd.prog 176 #[.slice A0 l0.length c0, .int .i64 a1, .int .i64 a2] w fun e w' => e = .returned (.bool r) ∧ Below w.heap.size w w' := by
 have hW : Below w.heap.size w ((w.alloc (.cells #[.int .i64 a1] 2)).alloc (.cells #[.int .i64 a2] 2)) := zB (zB (kW _ w) _) _
 have eg : ∀ args w, (callFunc 195 args).run Tryd.prog w = .ok (.enter 195 args) w := enters_fn Tryd.func195 (by kernel_rfl) rfl
 have hcon := containsFunc_any A0 c0 l0 195 #[.pointer (some ⟨w.heap.size, 0, none⟩), .pointer (some ⟨w.heap.size + 1, 0, none⟩)] (fun x => !decide (a1 ≤ x ∧ x ≤ a2)) _ eg
  (allIn_pred l0 a1 a2 w.heap.size ((w.alloc (.cells #[.int .i64 a1] 2)).alloc (.cells #[.int .i64 a2] 2)) (by simp) (by simp) (by simp)) (kO hr0 hW)
 have hr : (!(l0.any fun x => !decide (a1 ≤ x ∧ x ≤ a2))) = r := by
  have := Option.some.inj h
  rw [← this, List.all_eq_not_any_not]
 clear h hr0 eg
 generalize (l0.any fun x => !decide (a1 ≤ x ∧ x ≤ a2)) = b at hcon hr
 subst hr
 replace hW := zA hW
 go_enter Tryd.func176, Tryd.ntmps176
 go_wp2_with fail
 refine hcon.mono ?_
 rintro e w' ⟨rfl, hb⟩
 replace hb := zA hb
 clear hcon
 go_wp2
 go_ret
 exact ⟨rfl, kQ hW.out hb.out⟩

/-! ### impl_IsRelation: function 123 -/
def impl_IsRelation.f (l0 : List Int) : Option (Bool) := if (l0.length : Int) ≤ 24 then ((impl_length_int64.f l0).bind fun t254 => ((impl_one.f t254).bind fun t255 => ((impl_allIn.f l0 0 (wrap64 (t255 - 1))).bind fun t256 => (some t256)))) else (some false)
set_option maxHeartbeats 8000000 in
set_option maxRecDepth 100000 in
theorem impl_IsRelation.calls (A0 : Option Addr) (c0 : Nat) (l0 : List Int) (r : Bool) (w : World) (hr0 : Kd.C (Kd.int .i64) w A0 l0.length l0) (hc0 : l0.length ≤ c0) (h : impl_IsRelation.f l0 = some r) :
  Calls Tryd.prog 123 #[.slice A0 l0.length c0] w fun e w' => e = .returned (.bool r) ∧ Below w.heap.size w w' := by
 have HR0 := zA hr0
 have HC0 := zA hc0
 clear hr0 hc0
 have HB := zA (kW w.heap.size w)
 have H := h
 unfold impl_IsRelation.f at H
 clear h
 by_cases c2 : (l0.length : Int) ≤ 24
 ·rw [if_pos c2] at H
  have c2b0 : decide ((l0.length : Int) ≤ 24) = true := decide_eq_true c2
  have c2b1 : decide (l0.length ≤ 24) = true := decide_eq_true (by omega)
  clear c2
  obtain ⟨t254, A3, H⟩ := zb H
  try dsimp only at H
  obtain ⟨t255, A4, H⟩ := zb H
  try dsimp only at H
  obtain ⟨t256, A5, H⟩ := zb H
  try dsimp only at H
  obtain rfl := Option.some.inj H
  go_enter Tryd.func123, Tryd.ntmps123
  go_wp2_with (first | (go_at_call 119; (with_reducible refine (impl_length_int64.calls _ _ l0 t254 _ ?side1 ?side2 A3.out).mono ?_); (case side1 => exact zS HR0.out); (case side2 => exact HC0.out); rintro e w' ⟨rfl, ⟨nd, rfl⟩⟩) | (go_at_call 118; (with_reducible refine (impl_one.calls t254 t255 _ A4.out).mono ?_); rintro e w' ⟨rfl, ⟨nd, rfl⟩⟩) | (go_at_call 176; (with_reducible refine (impl_allIn.calls _ _ l0 0 (wrap64 (t255 - 1)) t256 _ ?side1 ?side2 A5.out).mono ?_); (case side1 => exact zS HR0.out); (case side2 => exact HC0.out); rintro e w6 ⟨rfl, hb⟩; replace HB := zA (kQ (zQ HB.out) hb); (try clear hb)))
  go_ret
  exact ⟨zr, zQ HB.out⟩
 rw [if_neg c2] at H
 have c2b0 : decide ((l0.length : Int) ≤ 24) = false := decide_eq_false c2
 have c2b1 : decide (l0.length ≤ 24) = false := decide_eq_false (by omega)
 clear c2
 obtain rfl := Option.some.inj H
 go_enter Tryd.func123, Tryd.ntmps123
 go_wp2
 go_ret
 exact ⟨zr, zQ HB.out⟩

/-! ### bits_TrailingZeros64: function 186: a contract of our own -/
def bits_TrailingZeros64.f (a0 : Int) : Option Int := if 0 ≤ a0 ∧ a0 < 18446744073709551616 then some (Lib.ctz 64 a0.toNat : Int) else none

set_option maxHeartbeats 1000000 in
theorem tz64_core (x k idx : Nat) (w : World) (hx0 : ((x : Int) == 0) = false)
  (key : IntKind.u64.wrap (bits BinOp.and IntKind.u64 (x : Int) (IntKind.u64.wrap (-(x : Int))) * 285870213051353865) / 288230376151711744 = (idx : Int))
  (hi : idx < 64) (hk : k < 64) (hcell : w.cell? ⟨0, idx, none⟩ = some (.int .u8 k)) :
  Calls Tryd.prog 186 #[.int .u64 x] w fun e w' => e = .returned (.int .i64 k) ∧ w = w' := by
 go_enter Tryd.func186, Tryd.ntmps186
 go_wp2_with (simp only [key])
 go_ret
 exact ⟨rfl, rfl⟩
theorem tz64_zero (w : World) : Calls Tryd.prog 186 #[.int .u64 0] w fun e w' => e = .returned (.int .i64 64) ∧ w = w' := by
 go_enter Tryd.func186, Tryd.ntmps186
 go_wp2
 go_ret
 exact ⟨rfl, rfl⟩
theorem tz64_key (x a : Nat) (hx : x < 18446744073709551616) (hx0 : x ≠ 0) (hlow : x &&& (18446744073709551616 - x) = a) :
  IntKind.u64.wrap (bits BinOp.and IntKind.u64 (x : Int) (IntKind.u64.wrap (-(x : Int))) * 285870213051353865) / 288230376151711744 = ((a * 285870213051353865 % 18446744073709551616 / 288230376151711744 : Nat) : Int) := by
 have e1 : IntKind.u64.wrap (-(x : Int)) = ((18446744073709551616 - x : Nat) : Int) := by rw [IntKind.wrap_u64]; omega
 rw [e1, bits_and_u64_nat x _ hx (by omega), hlow, IntKind.wrap_u64]
 omega
theorem bits_TrailingZeros64.calls (a0 : Int) (r : Int) (w : World) (hT : TabW w) (h : bits_TrailingZeros64.f a0 = some r) :
  Calls Tryd.prog 186 #[.int .u64 a0] w fun e w' => e = .returned (.int .i64 r) ∧ Drawn0 w w' := by
 unfold bits_TrailingZeros64.f at h
 split at h
 ·rename_i hr
  obtain ⟨x, rfl⟩ := Int.eq_ofNat_of_zero_le hr.1
  rw [Int.toNat_natCast] at h
  injection h with h
  subst h
  by_cases hx0 : x = 0
  ·subst hx0
   exact (tz64_zero w).mono fun e w' ⟨he, hw⟩ => ⟨he, ⟨0, hw.symm⟩⟩
  obtain ⟨hlow, hk⟩ := Lib.lowest_bit 64 x hx0 (by omega)
  obtain ⟨hi, htab⟩ := Lib.deBruijn64_at _ hk
  have hcell := hT _ hi
  rw [htab] at hcell
  exact (tz64_core x _ _ w (by simp; omega) (tz64_key x _ (by omega) hx0 hlow) hi hk hcell).mono fun e w' ⟨he, hw⟩ => ⟨he, ⟨0, hw.symm⟩⟩
 cases h

/-! ### impl_least: function 137 -/
def impl_least.f (a0 : Int) : Option (Int) := (bits_TrailingZeros64.f (IntKind.u64.wrap (a0))).bind fun t257 => (some t257)
set_option maxHeartbeats 8000000 in
set_option maxRecDepth 100000 in
theorem impl_least.calls (a0 : Int) (r : Int) (w : World) (hT : TabW w) (h : impl_least.f a0 = some r) :
  Calls Tryd.prog 137 #[.int .i64 a0] w fun e w' => e = .returned (.int .i64 r) ∧ Drawn0 w w' := by
 have HT := zA hT
 clear hT
 have H := h
 unfold impl_least.f at H
 clear h
 obtain ⟨t257, A2, H⟩ := zb H
 try dsimp only at H
 obtain rfl := Option.some.inj H
 go_enter Tryd.func137, Tryd.ntmps137
 go_wp2_with (first | (refine zO (some 5) Tryd.func186 #[.int .u64 (IntKind.u64.wrap (a0))] ?_; (with_reducible refine (bits_TrailingZeros64.calls (IntKind.u64.wrap (a0)) t257 _ ?side1 A2.out).mono ?_); (case side1 => repeat (first | (with_reducible first | exact HT.out | apply TabW.drewN | apply TabW.drew | apply TabW.alloc) | exact HT.out)); rintro e w' ⟨rfl, ⟨nd, rfl⟩⟩; refine ⟨_, rfl, ?_⟩))
 go_ret
 exact ⟨zs, by repeat (first | exact Drawn0.refl _ | apply Drawn0.step)⟩

end Go.Proofs.YthgapkbkhoeleaaDoor.PAll
