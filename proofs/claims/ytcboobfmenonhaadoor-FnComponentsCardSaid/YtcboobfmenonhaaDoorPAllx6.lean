-- Printed by a program of the session (wip/tools/pgen.py) out of the translation. Not trusted: Lean checks it.
import Derived.Test.YtcboobfmenonhaaDoorPAllx0
import Derived.Test.YtcboobfmenonhaaDoorPAllx1
import Derived.Test.YtcboobfmenonhaaDoorPAllx2
import Derived.Test.YtcboobfmenonhaaDoorPAllx3
import Derived.Test.YtcboobfmenonhaaDoorPAllx4
import Derived.Test.YtcboobfmenonhaaDoorPAllx5
namespace Go.Proofs.YtcboobfmenonhaaDoor.PAll
open Go.RowKit Go.Proofs.YtcboobfmenonhaaDoor.T Go.Proofs.YtcboobfmenonhaaDoorW.PrintWords Go.Proofs.YtcboobfmenonhaaDoorW.PrintLast Go.Proofs.YtcboobfmenonhaaDoorW.PrintMore
attribute [local go_sem] max2_int min2_int max_two min_two max_three min_three max_four min_four   -- for this text's walks alone
set_option linter.unusedVariables false
set_option linter.unusedSimpArgs false

/-! ### spec_l07Parts: function 67 -/
mutual
def spec_l07Parts.l0 : Nat → List Int → List (List Int) → Int → Int → Int → List Int → Option ((List (List Int)))
 | 0, _, _, _, _, _, _ => none
 | k + 1, x1, x5, x6, x7, x542000, x542001 => if x7 < x542000 then ((spec_l01Bit.f x6 x7).bind fun t546 => (if t546 = true then ((spec_l01One.f x7).bind fun t547 => (spec_l07Parts.l1 k x1 x5 x6 x7 t547 0 x542000 x542001)) else (spec_l07Parts.l0 k x1 x5 x6 (wrap64 (x7 + 1)) x542000 x542001))) else (some x5)
def spec_l07Parts.l1 : Nat → List Int → List (List Int) → Int → Int → Int → Int → Int → List Int → Option ((List (List Int)))
 | 0, _, _, _, _, _, _, _, _ => none
 | k + 1, x1, x5, x6, x7, x8, x9, x542000, x542001 => if x9 < x542000 then ((spec_l06Reach.f k x542000 x542001 x8).bind fun t548 => (spec_l07Parts.l1 k x1 x5 x6 x7 (Go.bits .and .i64 t548 (Go.bits .or .i64 x6 x8)) (wrap64 (x9 + 1)) x542000 x542001)) else ((spec_l03Project.f k x1 x8).bind fun t549 => ((spec_l03Normal.f k x542000 x542001 t549).bind fun t552 => (if x5.length < 5864062014805 then (spec_l07Parts.l0 k x1 (x5 ++ [t552]) (wrap64 (x6 - x8)) (wrap64 (x7 + 1)) x542000 x542001) else (none))))
end
def spec_l07Parts.f (k : Nat) (a0_0 : Int) (l0_1 : List Int) (l1 : List Int) : Option ((List (List Int))) := (spec_l07Letters.f k l1).bind fun t545 => (spec_l07Parts.l0 k l1 (([] : List (List Int))) t545 0 a0_0 l0_1)

def spec_l07Parts.T13 : Bool × List (List Nat × List Nat) := (true, [([], []), ([], []), ([], []), ([], []), ([2, 3], [2, 3]), ([1, 4, 4], [1, 4]), ([5], [5]), ([0, 6, 5], [0, 6]), ([7, 7, 0, 1, 2, 3, 4, 5, 6, 7], [0, 7])])
def spec_l07Parts.B13 : List Nat := [0, 0, 0, 0, 12, 30, 62, 127, 255]
theorem spec_l07Parts.tab13 : rtab .any (opsOf Tryd.f67 13) = spec_l07Parts.T13 := by kernel_rfl
theorem spec_l07Parts.bits13 : waitsOk spec_l07Parts.T13.2 spec_l07Parts.B13 = true := by kernel_rfl
set_option maxHeartbeats 8000000 in
set_option maxRecDepth 100000 in
theorem spec_l07Parts.calls (k : Nat) (a0_0 : Int) (A0_1 : Option Addr) (c0_1 : Nat) (l0_1 : List Int) (A1 : Option Addr) (c1 : Nat) (l1 : List Int) (r : List (List Int)) (w : World) (hr0_1 : Kd.C (Kd.int .i64) w A0_1 l0_1.length l0_1) (hc0_1 : l0_1.length ≤ c0_1) (hr1 : Kd.C (Kd.int .i64) w A1 l1.length l1) (hc1 : l1.length ≤ c1) (h : spec_l07Parts.f k a0_0 l0_1 l1 = some r) :
  Calls Tryd.prog 67 #[.agg #[.int .i64 a0_0, .slice A0_1 l0_1.length c0_1], .slice A1 l1.length c1] w fun e w' => ∃ v0_ : Value, e = .returned (v0_) ∧ Kd.S (Kd.slice 2 (Kd.int .i64)) 24 w' w.heap.size (fun _ => True) v0_ r ∧ Below w.heap.size w w' := by
 have hu26 := Tryd.underlying26
 have HR0_1 := zA hr0_1
 have HC0_1 := zA hc0_1
 clear hr0_1 hc0_1
 have HR1 := zA hr1
 have HC1 := zA hc1
 clear hr1 hc1
 have HB := zA (kW w.heap.size w)
 have H := h
 unfold spec_l07Parts.f at H
 clear h
 obtain ⟨y542, hy542⟩ : ∃ y_ : List (List Int), y_ = (([] : List (List Int))) := ⟨_, rfl⟩
 replace H : ((spec_l07Letters.f k l1).bind fun t545 => (spec_l07Parts.l0 k l1 y542 t545 0 a0_0 l0_1)) = some r := zy hy542 H
 have Ny542 := zA hy542
 clear hy542
 obtain ⟨t545, A3, H⟩ := zb H
 try dsimp only at H
 have H' := zA H
 clear H
 go_enter Tryd.func67, Tryd.ntmps67
 go_wp2_with (first | (refine zBE 2 #[.int .i64 a0_0, .slice A0_1 l0_1.length c0_1] 26 ?_; intro gb541 hg w4 hbox hb; have BK541 := zA (hbox); have GW541 := zA (zBH hg HB.out); have GE541 := zA (zBH hg HB.out); replace HB := zA (kQ (zQ HB.out) hb); clear hb hbox hg) | ((with_reducible refine kS (N := 10) rfl ?_); refine Kd.S_lit (Kd.slice 2 (Kd.int .i64)) _ 24 ?hg (N := 10) ?hd (xs := ([] : List (List Int))) (inner := []) (ok := fun _ => True) (okp := fun _ => True) ?hr ?hp (fun _ hk => hk) trivial (kW _ _) (Nat.le_refl _) (by simp) ?_; (case hd => rfl); (case hg => rfl); (case hr => first | (go_simp; done) | (go_simp; rfl)); (case hp => exact (Reps.none _ _)); intro v543 w5 ho6 hb hg_ hnew_; clear hg_ hnew_; (first | rw [← Ny542.out] at ho6 | (simp only [Int.reduceToNat] at ho6; rw [← Ny542.out] at ho6)); have HO544 := zA (Kd.S_lower ho6 (kP (zT HB.out GE541.out))); replace BK541 := zA (zB1 BK541.out hb); replace HB := zA (kQ (zT HB.out GE541.out) hb); clear hb ho6) | (refine zO (some 12) Tryd.func106 #[.slice A1 l1.length c1] ?_; (with_reducible refine (spec_l07Letters.calls k _ _ l1 t545 _ ?side1 ?side2 A3.out).mono ?_); (case side1 => exact zS (kO HR1.out HB.out)); (case side2 => exact HC1.out); rintro e w' ⟨rfl, ⟨nd, rfl⟩⟩; refine ⟨_, rfl, ?_⟩))
 go_loopg [5, 6, 7] k (fun kq v5 v6 v7 w' => ∃ (x5_1 : List (List Int)) (x6_1 : Int) (x7_1 : Int), v6 = .int .i64 x6_1 ∧ v7 = .int .i64 x7_1 ∧ Aside0 (spec_l07Parts.l0 kq l1 x5_1 x6_1 x7_1 a0_0 l0_1 = some r) ∧ Aside0 (kq ≤ k) ∧ Aside0 (Kd.S (Kd.slice 2 (Kd.int .i64)) 24 w' w.heap.size (fun _ => True) v5 x5_1) ∧ Aside0 (w'.heap[gb541]? = some (.cells #[.int .i64 a0_0, (.slice A0_1 l0_1.length c0_1)] 26 (0, 0))) ∧ Aside0 (Below w.heap.size w w'))
 case atStart => exact ⟨(y542), (t545), (0), zs, zs, H', ⟨Nat.le_refl _⟩, ⟨by (with_reducible repeat (first | apply Kd.S_alloc | apply Kd.S_drewN | apply Kd.S_drew)); exact HO544.out⟩, ⟨zR BK541.out⟩, ⟨zT HB.out GE541.out⟩⟩
 case round =>
  clear H'
  try clear c1
  try clear c6
  obtain ⟨x5_1, x6_1, x7_1, rfl, rfl, HA, HK1, HO_5, BK541, HB⟩ := hrel
  cases gk with
  | zero => exact absurd HA.out (by simp [spec_l07Parts.l0])
  | succ k1 =>
   have H := HA.out
   clear HA
   simp only [spec_l07Parts.l0] at H
   by_cases c7 : x7_1 < a0_0
   ·rw [if_pos c7] at H
    have c7b0 : decide (x7_1 < a0_0) = true := decide_eq_true c7
    clear c7
    obtain ⟨t546, A8, H⟩ := zb H
    try dsimp only at H
    by_cases c9 : t546 = true
    ·subst c9
     rw [if_pos rfl] at H
     obtain ⟨t547, A10, H⟩ := zb H
     try dsimp only at H
     have H' := zA H
     clear H
     obtain ⟨hcz11_0, hcz11_1, hfz11_0, hfz11_1⟩ := zB3 BK541.out
     go_wp2_with (first | (refine zO (some 21) Tryd.func72 #[.int .i64 x6_1, .int .i64 x7_1] ?_; (with_reducible refine (spec_l01Bit.calls x6_1 x7_1 true _ A8.out).mono ?_); rintro e w' ⟨rfl, ⟨nd, rfl⟩⟩; refine ⟨_, rfl, ?_⟩) | (refine zO (some 24) Tryd.func71 #[.int .i64 x7_1] ?_; (with_reducible refine (spec_l01One.calls x7_1 t547 _ A10.out).mono ?_); rintro e w' ⟨rfl, ⟨nd, rfl⟩⟩; refine ⟨_, rfl, ?_⟩))
     go_loopg [8, 9] k1 (fun kq v8 v9 w' => ∃ (x8_2 : Int) (x9_2 : Int), v8 = .int .i64 x8_2 ∧ v9 = .int .i64 x9_2 ∧ Aside0 (spec_l07Parts.l1 kq l1 x5_1 x6_1 x7_1 x8_2 x9_2 a0_0 l0_1 = some r) ∧ Aside0 (kq ≤ k1) ∧ Aside0 (Kd.S (Kd.slice 2 (Kd.int .i64)) 24 w' w.heap.size (fun _ => True) u5 x5_1) ∧ Aside0 (w'.heap[gb541]? = some (.cells #[.int .i64 a0_0, (.slice A0_1 l0_1.length c0_1)] 26 (0, 0))) ∧ Aside0 (Below w.heap.size w w'))
     case atStart => exact ⟨(t547), (0), zs, zs, H', ⟨Nat.le_refl _⟩, ⟨by (with_reducible repeat (first | apply Kd.S_alloc | apply Kd.S_drewN | apply Kd.S_drew)); exact HO_5.out⟩, ⟨zR BK541.out⟩, ⟨zT HB.out GE541.out⟩⟩
     case round =>
      clear H'
      try clear c1
      try clear c6
      try clear c7
      try clear c9
      try clear c10
      try clear hcz11_0
      try clear hcz11_1
      try clear hfz11_0
      try clear hfz11_1
      obtain ⟨x8_2, x9_2, rfl, rfl, HA, HK2, HO_5, BK541, HB⟩ := hrel
      cases gk with
      | zero => exact absurd HA.out (by simp [spec_l07Parts.l1])
      | succ k2 =>
       have H := HA.out
       clear HA
       simp only [spec_l07Parts.l1] at H
       by_cases c12 : x9_2 < a0_0
       ·rw [if_pos c12] at H
        have c12b0 : decide (x9_2 < a0_0) = true := decide_eq_true c12
        clear c12
        obtain ⟨t548, A13, H⟩ := zb H
        try dsimp only at H
        have H' := zA H
        clear H
        obtain ⟨hcz14_0, hcz14_1, hfz14_0, hfz14_1⟩ := zB3 BK541.out
        go_wp2_with (first | (refine zO (some 33) Tryd.func107 #[.agg #[.int .i64 a0_0, .slice A0_1 l0_1.length c0_1], .int .i64 x8_2] ?_; (with_reducible refine (spec_l06Reach.calls k2 a0_0 _ _ l0_1 x8_2 t548 _ ?side1 ?side2 A13.out).mono ?_); (case side1 => exact zS (kO HR0_1.out HB.out)); (case side2 => exact HC0_1.out); rintro e w15 ⟨rfl, hb⟩; refine ⟨_, rfl, ?_⟩; replace HO_5 := zA (Kd.S_below (by (with_reducible repeat (first | apply Kd.S_alloc | apply Kd.S_drewN | apply Kd.S_drew)); exact HO_5.out) hb); replace BK541 := zA (zB1 BK541.out hb); replace HB := zA (kQ (zT HB.out GE541.out) hb); (try clear hb)))
        go_roundg k2
        case measure => have := HK1.out; have := HK2.out; omega
        case rel => exact ⟨(Go.bits .and .i64 t548 (Go.bits .or .i64 x6_1 x8_2)), (wrap64 (x9_2 + 1)), zs, zs, H', ⟨by have := HK1.out; have := HK2.out; omega⟩, ⟨by (with_reducible repeat (first | apply Kd.S_alloc | apply Kd.S_drewN | apply Kd.S_drew)); exact HO_5.out⟩, ⟨zR BK541.out⟩, ⟨zT HB.out GE541.out⟩⟩
       rw [if_neg c12] at H
       have c12b0 : decide (x9_2 < a0_0) = false := decide_eq_false c12
       clear c12
       obtain ⟨t549, A16, H⟩ := zb H
       try dsimp only at H
       obtain ⟨t552, A17, H⟩ := zb H
       try dsimp only at H
       by_cases c18 : x5_1.length < 5864062014805
       ·rw [if_pos c18] at H
        have LMc18 := zA c18
        clear c18
        obtain ⟨y555, hy555⟩ : ∃ y_ : List (List Int), y_ = (x5_1 ++ [t552]) := ⟨_, rfl⟩
        replace H : (spec_l07Parts.l0 k2 l1 y555 (wrap64 (x6_1 - x8_2)) (wrap64 (x7_1 + 1)) a0_0 l0_1) = some r := zy hy555 H
        have Ny555 := zA hy555
        clear hy555
        have H' := zA H
        clear H
        obtain ⟨hcz19_0, hcz19_1, hfz19_0, hfz19_1⟩ := zB3 BK541.out
        try go_wp2
        replace HO_5 := zA (Kd.S_drew HO_5.out)
        replace BK541 := zA (zK BK541.out)
        replace HB := zA (zD HB.out)
        refine start_ (n := 9) (S := fun w' => w'.cell? ⟨gb541, 0, none⟩ = some (.int .i64 a0_0) ∧ w'.cell? ⟨gb541, 1, none⟩ = some (.slice A0_1 l0_1.length c0_1)) (ds := []) #[false, false, false, false, false, false, false, false, false] (by kernel_rfl) rfl rfl ⟨(kV BK541.out 0).trans rfl, (kV BK541.out 1).trans rfl⟩ (fun hHeld => ?_); refine with_tabW spec_l07Parts.tab13 spec_l07Parts.bits13 (fun HT_ HW_ => ?_)
        generalize wr.drew = w20 at HO_5 BK541 HB hHeld ⊢
        refine zp 0 (some 41) #[true, false, false, false, false, false, false, false, false] HT_.out ?_
        refine zp 2 (some 43) #[true, false, true, false, false, false, false, false, false] HT_.out ?_
        refine zp 3 (some 44) #[true, false, true, true, false, false, false, false, false] HT_.out ?_
        refine zc 1 (some 42) #[true, true, true, true, false, false, false, false, false] HT_.out HW_.out hHeld ?_
        refine one_ (i := 4) (N := some 45) #[true, true, true, true, true, false, false, false, false] rfl rfl (one_of HT_.out (by kernel_rfl)) (by decide) (fun K hK => ?_)
        refine goes_ Tryd.func108 (by kernel_rfl) rfl #[.slice A1 l1.length c1, .int .i64 x8_2] (by rfl) rfl rfl zg ?_
        with_reducible refine (spec_l03Project.calls k2 _ _ l1 x8_2 t549 _ ?side1 ?side2 A16.out).mono ?_
        (case side1 => exact zS (kO HR1.out HB.out))
        (case side2 => exact HC1.out)
        rintro e w21 ⟨v550, rfl, ho0, hb⟩
        refine ⟨_, rfl, ?_⟩
        replace HO_5 := zA (Kd.S_elder' (by (with_reducible repeat (first | apply Kd.S_alloc | apply Kd.S_drewN | apply Kd.S_drew)); exact HO_5.out) (kC ho0) hb)
        have HO551 := zA (kI ho0 (kP (zT HB.out GE541.out)))
        replace BK541 := zA (zB1 BK541.out hb)
        replace HB := zA (kQ (zT HB.out GE541.out) hb)
        (try clear hb)
        (try clear hb2)
        (try clear hk)
        (try clear hi)
        (try clear hgw)
        (try clear ho0)
        obtain ⟨Ao22, co22, eo22⟩ := kM HO551.out
        (first | subst eo22 | (injection eo22 with f1_ f2_ f3_; have f4_ := f1_.symm; have f5_ := f3_.symm; clear f1_ f2_ f3_; subst f4_; subst f5_))
        refine hK.out _ _ ⟨(kV BK541.out 0).trans rfl, (kV BK541.out 1).trans rfl⟩ (fun hHeld => ?_)
        clear hK K
        refine norm_ (a' := ?_) ?_ ?_
        rotate_left
        ·show Act.put _ (some 45) _ = _
         simp only [Act.put, zL, zM, zN, i64_w, i32_w]
         rfl
        refine one_ (i := 5) (N := some 46) #[true, true, true, true, true, true, false, false, false] rfl rfl (one_of HT_.out (by kernel_rfl)) (by decide) (fun K hK => ?_)
        refine goes_ Tryd.func64 (by kernel_rfl) rfl #[.agg #[.int .i64 a0_0, .slice A0_1 l0_1.length c0_1], .slice Ao22 t549.length co22] (by rfl) rfl rfl zg ?_
        with_reducible refine (spec_l03Normal.calls k2 a0_0 _ _ l0_1 _ _ t549 t552 _ ?side1 ?side2 ?side3 ?side4 A17.out).mono ?_
        (case side1 => exact zS (kO HR0_1.out HB.out))
        (case side2 => exact HC0_1.out)
        (case side3 => exact zS (kB HO551.out).2.2)
        (case side4 => exact (kB HO551.out).2.1)
        rintro e w23 ⟨v553, rfl, ho0, hb⟩
        refine ⟨_, rfl, ?_⟩
        replace HO_5 := zA (Kd.S_elder' (by (with_reducible repeat (first | apply Kd.S_alloc | apply Kd.S_drewN | apply Kd.S_drew)); exact HO_5.out) (kC ho0) hb)
        have HO554 := zA (kI (kF ho0 (kH (zP HO551.out))) (kP (zT HB.out GE541.out)))
        replace HO551 := zA (kE (zP HO551.out) (kC ho0) hb)
        replace BK541 := zA (zB1 BK541.out hb)
        replace HB := zA (kQ (zT HB.out GE541.out) hb)
        (try clear hb)
        (try clear hb2)
        (try clear hk)
        (try clear hi)
        (try clear hgw)
        (try clear ho0)
        obtain ⟨Ao25, co25, eo25⟩ := kM HO554.out
        (first | subst eo25 | (injection eo25 with f1_ f2_ f3_; have f4_ := f1_.symm; have f5_ := f3_.symm; clear f1_ f2_ f3_; subst f4_; subst f5_))
        refine hK.out _ _ ⟨(kV BK541.out 0).trans rfl, (kV BK541.out 1).trans rfl⟩ (fun hHeld => ?_)
        clear hK K
        refine norm_ (a' := ?_) ?_ ?_
        rotate_left
        ·show Act.put _ (some 46) _ = _
         simp only [Act.put, zL, zM, zN, i64_w, i32_w]
         rfl
        refine one_ (i := 6) (N := some 47) #[true, true, true, true, true, true, true, false, false] rfl rfl (one_of HT_.out (by kernel_rfl)) (by decide) (fun K hK => ?_)
        refine value_ (w1 := ?_) (v := ?_) (by rfl) rfl ?_ ?_
        rotate_left 2
        ·go_simp
         constructor
         ·rfl
         rfl
        refine hK.out _ _ ⟨(kV (zI BK541.out _) 0).trans rfl, (kV (zI BK541.out _) 1).trans rfl⟩ (fun hHeld => ?_)
        clear hK K
        refine norm_ (a' := ?_) ?_ ?_
        rotate_left
        ·show Act.put _ (some 47) _ = _
         simp only [Act.put, zL, zM, zN, i64_w, i32_w]
         rfl
        refine one_ (i := 7) (N := some 48) #[true, true, true, true, true, true, true, true, false] rfl rfl (one_of HT_.out (by kernel_rfl)) (by decide) (fun K hK => ?_)
        refine Kd.S_append_step (Kd.slice 2 (Kd.int .i64)) (w0 := w) w.heap.size (by rfl) (.tmp 41) (.tmp 47) 41 24 (.slice none 0 0) 24 rfl Tryd.underlying41 info24 rfl (by decide) (by omega) u5 x5_1 t552 [.slice Ao25 t552.length co25] (fun k_ => some k_ ≠ (.slice Ao22 t549.length co22 : Value).ownBlock) (fun k_ => some k_ = (.slice Ao25 t552.length co25 : Value).ownBlock) rfl rfl ?aP (fun k_ hk_ => ((kA (ok' := fun k_ => ((fun k_ => some k_ ≠ (.slice Ao22 t549.length co22 : Value).ownBlock)) k_ ∧ some k_ ≠ (u5 : Value).ownBlock) (Kd.R_apart' (HO554.out) (Kd.S_typed HO_5.out) (by decide)) (fun k_ hk => ⟨hk.1.2, hk.2⟩))).1 k_ hk_.symm) ?aF ?aO ?aB ?aS ?aL ?_
        (case aP => exact Kd.M_row (kA (jK rfl (kA (ok' := fun k_ => ((fun k_ => some k_ ≠ (.slice Ao22 t549.length co22 : Value).ownBlock)) k_ ∧ some k_ ≠ (u5 : Value).ownBlock) (Kd.R_apart' (HO554.out) (Kd.S_typed HO_5.out) (by decide)) (fun k_ hk => ⟨hk.1.2, hk.2⟩))) (fun _ h_ => h_)))
        (case aB => exact (zT HB.out GE541.out))
        (case aF => exact (fun k_ hk => jF (kH (zP HO551.out)) k_ hk))
        (case aO => exact (by (with_reducible repeat (first | apply Kd.S_alloc | apply Kd.S_drewN | apply Kd.S_drew)); exact Kd.S_mono HO_5.out (fun k_ hk => ⟨hk.1.2, fun e_ => hk.2 e_⟩)))
        (case aS => exact (kP (zT HB.out GE541.out)))
        (case aL => have := LMc18.out; omega)
        intro v556 w24 ho hb hg hat
        rw [← Ny555.out] at ho
        replace BK541 := zA (blk_grown (g := gb541) (o := .cells #[.int .i64 a0_0, .slice A0_1 l0_1.length c0_1] 26 (0, 0)) (zR BK541.out) hg (Kd.S_ne HO_5.out BK541.out (by decide)))
        replace HO551 := zA (Kd.R_over' (zP HO551.out) (Kd.S_typed (by (with_reducible repeat (first | apply Kd.S_alloc | apply Kd.S_drewN | apply Kd.S_drew)); exact HO_5.out)) (by decide) hg)
        replace HB := zA (hb)
        have HO557 := zA (ho)
        clear HO_5 HO554 ho hb hg hat
        refine hK.out _ _ ⟨(kV BK541.out 0).trans rfl, (kV BK541.out 1).trans rfl⟩ (fun hHeld => ?_)
        clear hK K
        refine norm_ (a' := ?_) ?_ ?_
        rotate_left
        ·show Act.put _ (some 48) _ = _
         simp only [Act.put, zL, zM, zN, i64_w, i32_w]
         rfl
        refine zp 8 (some 5) #[true, true, true, true, true, true, true, true, true] HT_.out ?_
        refine done_ (done_of HT_.out (by kernel_rfl)) ?_
        try go_wp2
        go_roundg k2
        case measure => have := HK1.out; have := HK2.out; omega
        case rel => exact ⟨(y555), (wrap64 (x6_1 - x8_2)), (wrap64 (x7_1 + 1)), zs, zs, H', ⟨by have := HK1.out; have := HK2.out; omega⟩, ⟨by (with_reducible repeat (first | apply Kd.S_alloc | apply Kd.S_drewN | apply Kd.S_drew)); exact Kd.S_mono HO557.out (fun _ hk => trivial)⟩, ⟨zR BK541.out⟩, ⟨zT HB.out GE541.out⟩⟩
       rw [if_neg c18] at H
       exact absurd H (by simp)
    replace c9 := Bool.eq_false_iff.mpr c9
    subst c9
    rw [if_neg (show ¬ (false = true) by decide)] at H
    have H' := zA H
    clear H
    obtain ⟨hcz26_0, hcz26_1, hfz26_0, hfz26_1⟩ := zB3 BK541.out
    go_wp2_with (first | (refine zO (some 21) Tryd.func72 #[.int .i64 x6_1, .int .i64 x7_1] ?_; (with_reducible refine (spec_l01Bit.calls x6_1 x7_1 false _ A8.out).mono ?_); rintro e w' ⟨rfl, ⟨nd, rfl⟩⟩; refine ⟨_, rfl, ?_⟩))
    go_roundg k1
    case measure => have := HK1.out; omega
    case rel => exact ⟨(x5_1), (x6_1), (wrap64 (x7_1 + 1)), zs, zs, H', ⟨by have := HK1.out; omega⟩, ⟨by (with_reducible repeat (first | apply Kd.S_alloc | apply Kd.S_drewN | apply Kd.S_drew)); exact HO_5.out⟩, ⟨zR BK541.out⟩, ⟨zT HB.out GE541.out⟩⟩
   rw [if_neg c7] at H
   have c7b0 : decide (x7_1 < a0_0) = false := decide_eq_false c7
   clear c7
   obtain rfl := Option.some.inj H
   obtain ⟨hcz27_0, hcz27_1, hfz27_0, hfz27_1⟩ := zB3 BK541.out
   go_wp2
   go_ret
   exact ⟨_, zr, by (with_reducible repeat (first | apply Kd.S_alloc | apply Kd.S_drewN | apply Kd.S_drew)); exact HO_5.out, zT HB.out GE541.out⟩

/-! ### spec_TraceComponents: function 31 -/
def spec_TraceComponents.f (k : Nat) (a0_0 : Int) (l0_1 : List Int) (l1 : List Int) : Option ((List (List Int)) × Int) := (spec_l03Code.f k a0_0 l0_1 l1 l1).bind fun t559 => (if t559 = 0 then ((spec_l07Parts.f k a0_0 l0_1 l1).bind fun t560 => (some (t560, 0))) else (some (([] : List (List Int)), t559)))

set_option maxHeartbeats 8000000 in
set_option maxRecDepth 100000 in
theorem spec_TraceComponents.calls (k : Nat) (a0_0 : Int) (A0_1 : Option Addr) (c0_1 : Nat) (l0_1 : List Int) (A1 : Option Addr) (c1 : Nat) (l1 : List Int) (r1 : List (List Int)) (r2 : Int) (w : World) (hr0_1 : Kd.C (Kd.int .i64) w A0_1 l0_1.length l0_1) (hc0_1 : l0_1.length ≤ c0_1) (hr1 : Kd.C (Kd.int .i64) w A1 l1.length l1) (hc1 : l1.length ≤ c1) (h : spec_TraceComponents.f k a0_0 l0_1 l1 = some (r1, r2)) :
  Calls Tryd.prog 31 #[.agg #[.int .i64 a0_0, .slice A0_1 l0_1.length c0_1], .slice A1 l1.length c1] w fun e w' => ∃ v0_ : Value, e = .returned (.tuple #[v0_, .int .i64 r2]) ∧ Kd.S (Kd.slice 2 (Kd.int .i64)) 24 w' w.heap.size (fun _ => True) v0_ r1 ∧ Below w.heap.size w w' := by
 have hu26 := Tryd.underlying26
 have HR0_1 := zA hr0_1
 have HC0_1 := zA hc0_1
 clear hr0_1 hc0_1
 have HR1 := zA hr1
 have HC1 := zA hc1
 clear hr1 hc1
 have HB := zA (kW w.heap.size w)
 have H := h
 unfold spec_TraceComponents.f at H
 clear h
 obtain ⟨t559, A3, H⟩ := zb H
 try dsimp only at H
 by_cases c4 : t559 = 0
 ·rw [if_pos c4] at H
  obtain ⟨c4b0, c4b1⟩ := zT1 c4
  clear c4
  obtain ⟨t560, A5, H⟩ := zb H
  try dsimp only at H
  simp only [Option.some.injEq, Prod.mk.injEq] at H
  obtain ⟨rfl, rfl⟩ := H
  go_enter Tryd.func31, Tryd.ntmps31
  go_wp2_with (first | (refine zBE 2 #[.int .i64 a0_0, .slice A0_1 l0_1.length c0_1] 26 ?_; intro gb558 hg w6 hbox hb; have BK558 := zA (hbox); have GW558 := zA (zBH hg HB.out); have GE558 := zA (zBH hg HB.out); replace HB := zA (kQ (zQ HB.out) hb); clear hb hbox hg; obtain ⟨hcz7_0, hcz7_1, hfz7_0, hfz7_1⟩ := zB3 BK558.out) | (refine zO (some 10) Tryd.func60 #[.agg #[.int .i64 a0_0, .slice A0_1 l0_1.length c0_1], .slice A1 l1.length c1, .slice A1 l1.length c1] ?_; (with_reducible refine (spec_l03Code.calls k a0_0 _ _ l0_1 _ _ l1 _ _ l1 t559 _ ?side1 ?side2 ?side3 ?side4 ?side5 ?side6 A3.out).mono ?_); (case side1 => exact zS (kO HR0_1.out HB.out)); (case side2 => exact HC0_1.out); (case side3 => exact zS (kO HR1.out HB.out)); (case side4 => exact HC1.out); (case side5 => exact zS (kO HR1.out HB.out)); (case side6 => exact HC1.out); rintro e w8 ⟨rfl, hb⟩; refine ⟨_, rfl, ?_⟩; replace BK558 := zA (zB1 BK558.out hb); replace HB := zA (kQ (zT HB.out GE558.out) hb); (try clear hb); obtain ⟨hcz9_0, hcz9_1, hfz9_0, hfz9_1⟩ := zB3 BK558.out) | (refine zO (some 16) Tryd.func67 #[.agg #[.int .i64 a0_0, .slice A0_1 l0_1.length c0_1], .slice A1 l1.length c1] ?_; (with_reducible refine (spec_l07Parts.calls k a0_0 _ _ l0_1 _ _ l1 t560 _ ?side1 ?side2 ?side3 ?side4 A5.out).mono ?_); (case side1 => exact zS (kO HR0_1.out HB.out)); (case side2 => exact HC0_1.out); (case side3 => exact zS (kO HR1.out HB.out)); (case side4 => exact HC1.out); rintro e w10 ⟨v561, rfl, ho0, hb⟩; refine ⟨_, rfl, ?_⟩; have HO562 := zA (Kd.S_lower ho0 (kP (zT HB.out GE558.out))); replace BK558 := zA (zB1 BK558.out hb); replace HB := zA (kQ (zT HB.out GE558.out) hb); (try clear hb); (try clear ho0)))
  go_ret2
  exact ⟨_, zr, by (with_reducible repeat (first | apply Kd.S_alloc | apply Kd.S_drewN | apply Kd.S_drew)); exact HO562.out, zT HB.out GE558.out⟩
 rw [if_neg c4] at H
 obtain ⟨c4b0, c4b1⟩ := zT2 c4
 simp only [Option.some.injEq, Prod.mk.injEq] at H
 obtain ⟨rfl, rfl⟩ := H
 go_enter Tryd.func31, Tryd.ntmps31
 go_wp2_with (first | (refine zBE 2 #[.int .i64 a0_0, .slice A0_1 l0_1.length c0_1] 26 ?_; intro gb558 hg w11 hbox hb; have BK558 := zA (hbox); have GW558 := zA (zBH hg HB.out); have GE558 := zA (zBH hg HB.out); replace HB := zA (kQ (zQ HB.out) hb); clear hb hbox hg; obtain ⟨hcz12_0, hcz12_1, hfz12_0, hfz12_1⟩ := zB3 BK558.out) | (refine zO (some 10) Tryd.func60 #[.agg #[.int .i64 a0_0, .slice A0_1 l0_1.length c0_1], .slice A1 l1.length c1, .slice A1 l1.length c1] ?_; (with_reducible refine (spec_l03Code.calls k a0_0 _ _ l0_1 _ _ l1 _ _ l1 t559 _ ?side1 ?side2 ?side3 ?side4 ?side5 ?side6 A3.out).mono ?_); (case side1 => exact zS (kO HR0_1.out HB.out)); (case side2 => exact HC0_1.out); (case side3 => exact zS (kO HR1.out HB.out)); (case side4 => exact HC1.out); (case side5 => exact zS (kO HR1.out HB.out)); (case side6 => exact HC1.out); rintro e w13 ⟨rfl, hb⟩; refine ⟨_, rfl, ?_⟩; replace BK558 := zA (zB1 BK558.out hb); replace HB := zA (kQ (zT HB.out GE558.out) hb); (try clear hb)))
 go_ret2
 exact ⟨_, zr, by first | exact Kd.S_nil _ _ _ _ _ | exact Kd.N_nil _ _ _ _ _ | exact Kd.V_nil _ _ _ _ _ | exact Kd.Q_nil _ _ _ _ _ | exact jO _ _ _ _ _, zT HB.out GE558.out⟩

/-! ### impl_IsConnectedTrace: function 32 -/
def impl_IsConnectedTrace.f (k : Nat) (a0_0 : Int) (l0_1 : List Int) (l1 : List Int) : Option (Bool × Int) := (impl_checkWords.f k a0_0 l0_1 (([l1] : List (List Int)))).bind fun t567 => (if t567 = 0 then ((impl_Alphabet_ties.f a0_0 l0_1).bind fun t568 => ((impl_ties_partsOf.f k t568 l1).bind fun t571 => (some (((t571.length : Int) == 1), 0)))) else (some (false, t567)))

set_option maxHeartbeats 8000000 in
set_option maxRecDepth 100000 in
theorem impl_IsConnectedTrace.calls (k : Nat) (a0_0 : Int) (P0_1_ : Nat → Prop) (A0_1 : Option Addr) (c0_1 : Nat) (l0_1 : List Int) (P1_ : Nat → Prop) (A1 : Option Addr) (c1 : Nat) (l1 : List Int) (r1 : Bool) (r2 : Int) (w : World) (hs0_1 : Kd.V (Kd.int .i64) 2 w w.heap.size (fun k_ => P0_1_ k_) (.slice A0_1 l0_1.length c0_1) l0_1) (hs1 : Kd.V (Kd.int .i64) 2 w w.heap.size (fun k_ => P1_ k_) (.slice A1 l1.length c1) l1) (hT : TabW w) (h : impl_IsConnectedTrace.f k a0_0 l0_1 l1 = some (r1, r2)) :
  Calls Tryd.prog 32 #[.agg #[.int .i64 a0_0, .slice A0_1 l0_1.length c0_1], .slice A1 l1.length c1] w fun e w' => e = .returned (.tuple #[.bool r1, .int .i64 r2]) ∧ Below w.heap.size w w' := by
 have hu26 := Tryd.underlying26
 have HT := zA hT
 clear hT
 have HO0_1 := zA (show Kd.V (Kd.int .i64) 2 w w.heap.size (fun k_ => ((P0_1_ k_ ∨ P1_ k_) ∨ w.heap.size ≤ k_)) (.slice A0_1 l0_1.length c0_1) l0_1 from kN hs0_1 (fun k_ hk => .inl (.inl hk)))
 have HO1 := zA (show Kd.V (Kd.int .i64) 2 w w.heap.size (fun k_ => ((P0_1_ k_ ∨ P1_ k_) ∨ w.heap.size ≤ k_)) (.slice A1 l1.length c1) l1 from kN hs1 (fun k_ hk => .inl (.inr hk)))
 have HB := zA (kW w.heap.size w)
 have H := h
 unfold impl_IsConnectedTrace.f at H
 clear h
 obtain ⟨y564, hy564⟩ : ∃ y_ : List (List Int), y_ = (([l1] : List (List Int))) := ⟨_, rfl⟩
 replace H : ((impl_checkWords.f k a0_0 l0_1 y564).bind fun t567 => (if t567 = 0 then ((impl_Alphabet_ties.f a0_0 l0_1).bind fun t568 => ((impl_ties_partsOf.f k t568 l1).bind fun t571 => (some (((t571.length : Int) == 1), 0)))) else (some (false, t567)))) = some (r1, r2) := zy hy564 H
 have Ny564 := zA hy564
 clear hy564
 obtain ⟨t567, A3, H⟩ := zb H
 try dsimp only at H
 by_cases c4 : t567 = 0
 ·rw [if_pos c4] at H
  obtain ⟨c4b0, c4b1⟩ := zT1 c4
  clear c4
  obtain ⟨t568, A5, H⟩ := zb H
  try dsimp only at H
  obtain ⟨t571, A6, H⟩ := zb H
  try dsimp only at H
  simp only [Option.some.injEq, Prod.mk.injEq] at H
  obtain ⟨rfl, rfl⟩ := H
  go_enter Tryd.func32, Tryd.ntmps32
  go_wp2_with (first | (refine zBE 2 #[.int .i64 a0_0, .slice A0_1 l0_1.length c0_1] 26 ?_; intro gb563 hg w7 hbox hb; replace HO0_1 := zA (kG (jD (zPV HO0_1.out) gb563 (Nat.le_of_eq hg.symm)) hb); replace HO1 := zA (kG (jD (zPV HO1.out) gb563 (Nat.le_of_eq hg.symm)) hb); have BK563 := zA (hbox); have GW563 := zA (zBH hg HB.out); have GE563 := zA (zBH hg HB.out); replace HB := zA (kQ (zQ HB.out) hb); clear hb hbox hg; obtain ⟨hcz8_0, hcz8_1, hfz8_0, hfz8_1⟩ := zB3 BK563.out) | ((with_reducible refine kS (N := 9) rfl ?_); refine Kd.N_lit (Kd.slice 2 (Kd.int .i64)) _ 24 ?hg (N' := 9) ?hd (xs := ([l1] : List (List Int))) (inner := [.slice A1 l1.length c1]) (ok := (fun k_ => ((P0_1_ k_ ∨ P1_ k_) ∨ w.heap.size ≤ k_) ∧ k_ ≠ gb563)) (okp := (fun k_ => ((P0_1_ k_ ∨ P1_ k_) ∨ w.heap.size ≤ k_) ∧ k_ ≠ gb563)) ?hr ?hp (fun _ hk => hk) ((show ∀ k_ : Nat, (_ : Nat) ≤ k_ → (fun k_ => ((P0_1_ k_ ∨ P1_ k_) ∨ w.heap.size ≤ k_) ∧ k_ ≠ gb563) k_ from fun k_ hk => ⟨(.inr (Nat.le_trans (kP (zT HB.out GE563.out)) hk)), jE (g := gb563) (o := .cells #[.int .i64 a0_0, .slice A0_1 l0_1.length c0_1] 26 (0, 0)) (zR BK563.out) k_ hk⟩) _ (Nat.le_refl _)) (kW _ _) (Nat.le_refl _) (by simp) ?_; (case hd => rfl); (case hg => rfl); (case hr => first | (go_simp; done) | (go_simp; rfl)); (case hp => exact (Reps.one (show Kd.FK (Kd.slice 2 (Kd.int .i64)) _ _ l1 [.slice A1 l1.length c1] from (zFK (kN (ok' := (fun k_ => ((P0_1_ k_ ∨ P1_ k_) ∨ w.heap.size ≤ k_) ∧ k_ ≠ gb563)) (HO1.out) (fun k_ hk => ⟨hk.1, hk.2⟩)))) (Reps.none _ _))); intro v565 w9 ho10 hb hg_ hnew_; clear hg_ hnew_; (first | rw [← Ny564.out] at ho10 | (simp only [Int.reduceToNat] at ho10; rw [← Ny564.out] at ho10)); replace HO0_1 := zA (kK (zPV HO0_1.out) (Kd.N_base ho10) hb); replace HO1 := zA (kK (zPV HO1.out) (Kd.N_base ho10) hb); have HO566 := zA (jN ho10 (kP (zT HB.out GE563.out))); replace BK563 := zA (zB1 BK563.out hb); replace HB := zA (kQ (zT HB.out GE563.out) hb); clear hb ho10; obtain ⟨Ao11, co11, eo11⟩ := Kd.N_slice HO566.out; subst eo11) | (refine zO (some 10) Tryd.func53 #[.agg #[.int .i64 a0_0, .slice A0_1 l0_1.length c0_1], .slice Ao11 y564.length co11] ?_; (with_reducible refine (impl_checkWords.calls k a0_0 _ _ l0_1 _ _ y564 t567 _ ?side1 ?side2 ?side3 ?side4 ?side5 A3.out).mono ?_); (case side1 => exact zS (kJ HO0_1.out).2.2); (case side2 => exact (kJ HO0_1.out).2.1); (case side3 => exact zS (Kd.N_reads' HO566.out).2.2); (case side4 => exact (Kd.N_reads' HO566.out).2.1); (case side5 => exact TabW.below HT.out (zT HB.out GE563.out)); rintro e w12 ⟨rfl, hb⟩; refine ⟨_, rfl, ?_⟩; replace HO0_1 := zA (kG (zPV HO0_1.out) hb); replace HO1 := zA (kG (zPV HO1.out) hb); replace HO566 := zA (kZ (zPN HO566.out) hb); replace BK563 := zA (zB1 BK563.out hb); replace HB := zA (kQ (zT HB.out GE563.out) hb); (try clear hb); obtain ⟨hcz13_0, hcz13_1, hfz13_0, hfz13_1⟩ := zB3 BK563.out) | (refine zO (some 15) Tryd.func54 #[.agg #[.int .i64 a0_0, .slice A0_1 l0_1.length c0_1]] ?_; (with_reducible refine (impl_Alphabet_ties.calls a0_0 (fun k_ => ((((P0_1_ k_ ∨ P1_ k_) ∨ w.heap.size ≤ k_) ∧ k_ ≠ gb563) ∧ some k_ ≠ (.slice Ao11 y564.length co11 : Value).ownBlock)) _ _ l0_1 t568 _ ?side1 A5.out).mono ?_); (case side1 => exact HO0_1.out); rintro e w14 ⟨v569, rfl, ho0, hb⟩; refine ⟨_, rfl, ?_⟩; replace HO0_1 := zA (kG (zPV HO0_1.out) hb); replace HO1 := zA (kG (zPV HO1.out) hb); have HO570 := zA (jM (kN (ok' := fun k_ => ((P0_1_ k_ ∨ P1_ k_) ∨ w.heap.size ≤ k_) ∧ some k_ ≠ (.slice Ao11 y564.length co11 : Value).ownBlock ∧ k_ ≠ gb563) ho0 (fun k_ hk_ => ⟨Or.elim hk_ (fun hs_ => hs_.1.1) (fun hn_ => (.inr (Nat.le_trans (kP (zT HB.out GE563.out)) hn_))), Or.elim hk_ (fun hs_ => hs_.2) (fun hn_ => (jF (jA (zPN HO566.out)) k_ hn_)), Or.elim hk_ (fun hs_ => hs_.1.2) (fun hn_ => (jE (g := gb563) (o := .cells #[.int .i64 a0_0, .slice A0_1 l0_1.length c0_1] 26 (0, 0)) (zR BK563.out) k_ hn_))⟩)) (kP (zT HB.out GE563.out))); replace HO566 := zA (kZ (zPN HO566.out) hb); replace BK563 := zA (zB1 BK563.out hb); replace HB := zA (kQ (zT HB.out GE563.out) hb); (try clear hb); (try clear ho0); obtain ⟨Ao15, co15, eo15⟩ := Kd.V_slice HO570.out; subst eo15) | (refine zO (some 17) Tryd.func66 #[.slice Ao15 t568.length co15, .slice A1 l1.length c1] ?_; (with_reducible refine (impl_ties_partsOf.calls k _ _ t568 _ _ l1 t571 _ ?side1 ?side2 ?side3 ?side4 ?side5 A6.out).mono ?_); (case side1 => exact zS (kJ HO570.out).2.2); (case side2 => exact (kJ HO570.out).2.1); (case side3 => exact zS (kJ HO1.out).2.2); (case side4 => exact (kJ HO1.out).2.1); (case side5 => exact TabW.below HT.out (zT HB.out GE563.out)); rintro e w16 ⟨v572, rfl, ho0, hb⟩; refine ⟨_, rfl, ?_⟩; replace HO0_1 := zA (kK (zPV HO0_1.out) (Kd.N_base (Kd.S_N ho0)) hb); replace HO1 := zA (kK (zPV HO1.out) (Kd.N_base (Kd.S_N ho0)) hb); replace HO570 := zA (kK (zPV HO570.out) (Kd.N_base (Kd.S_N ho0)) hb); have HO573 := zA (jN (Kd.N_mono (ok' := fun k_ => ((P0_1_ k_ ∨ P1_ k_) ∨ w.heap.size ≤ k_) ∧ some k_ ≠ (.slice Ao11 y564.length co11 : Value).ownBlock ∧ k_ ≠ gb563) (Kd.S_N (Kd.S_bound ho0)) (fun k_ hk_ => ⟨(.inr (Nat.le_trans (kP (zT HB.out GE563.out)) hk_.2.1)), (jF (jA (zPN HO566.out)) k_ hk_.2.1), (jE (g := gb563) (o := .cells #[.int .i64 a0_0, .slice A0_1 l0_1.length c0_1] 26 (0, 0)) (zR BK563.out) k_ hk_.2.1)⟩)) (kP (zT HB.out GE563.out))); replace HO566 := zA (Kd.N_elder' (zPN HO566.out) (Kd.N_base (Kd.S_N ho0)) hb); replace BK563 := zA (zB1 BK563.out hb); replace HB := zA (kQ (zT HB.out GE563.out) hb); (try clear hb); (try clear ho0); obtain ⟨Ao17, co17, eo17⟩ := Kd.N_slice HO573.out; subst eo17))
  go_ret2
  exact ⟨zr, zT HB.out GE563.out⟩
 rw [if_neg c4] at H
 obtain ⟨c4b0, c4b1⟩ := zT2 c4
 simp only [Option.some.injEq, Prod.mk.injEq] at H
 obtain ⟨rfl, rfl⟩ := H
 go_enter Tryd.func32, Tryd.ntmps32
 go_wp2_with (first | (refine zBE 2 #[.int .i64 a0_0, .slice A0_1 l0_1.length c0_1] 26 ?_; intro gb563 hg w18 hbox hb; replace HO0_1 := zA (kG (jD (zPV HO0_1.out) gb563 (Nat.le_of_eq hg.symm)) hb); replace HO1 := zA (kG (jD (zPV HO1.out) gb563 (Nat.le_of_eq hg.symm)) hb); have BK563 := zA (hbox); have GW563 := zA (zBH hg HB.out); have GE563 := zA (zBH hg HB.out); replace HB := zA (kQ (zQ HB.out) hb); clear hb hbox hg; obtain ⟨hcz19_0, hcz19_1, hfz19_0, hfz19_1⟩ := zB3 BK563.out) | ((with_reducible refine kS (N := 9) rfl ?_); refine Kd.N_lit (Kd.slice 2 (Kd.int .i64)) _ 24 ?hg (N' := 9) ?hd (xs := ([l1] : List (List Int))) (inner := [.slice A1 l1.length c1]) (ok := (fun k_ => ((P0_1_ k_ ∨ P1_ k_) ∨ w.heap.size ≤ k_) ∧ k_ ≠ gb563)) (okp := (fun k_ => ((P0_1_ k_ ∨ P1_ k_) ∨ w.heap.size ≤ k_) ∧ k_ ≠ gb563)) ?hr ?hp (fun _ hk => hk) ((show ∀ k_ : Nat, (_ : Nat) ≤ k_ → (fun k_ => ((P0_1_ k_ ∨ P1_ k_) ∨ w.heap.size ≤ k_) ∧ k_ ≠ gb563) k_ from fun k_ hk => ⟨(.inr (Nat.le_trans (kP (zT HB.out GE563.out)) hk)), jE (g := gb563) (o := .cells #[.int .i64 a0_0, .slice A0_1 l0_1.length c0_1] 26 (0, 0)) (zR BK563.out) k_ hk⟩) _ (Nat.le_refl _)) (kW _ _) (Nat.le_refl _) (by simp) ?_; (case hd => rfl); (case hg => rfl); (case hr => first | (go_simp; done) | (go_simp; rfl)); (case hp => exact (Reps.one (show Kd.FK (Kd.slice 2 (Kd.int .i64)) _ _ l1 [.slice A1 l1.length c1] from (zFK (kN (ok' := (fun k_ => ((P0_1_ k_ ∨ P1_ k_) ∨ w.heap.size ≤ k_) ∧ k_ ≠ gb563)) (HO1.out) (fun k_ hk => ⟨hk.1, hk.2⟩)))) (Reps.none _ _))); intro v565 w20 ho21 hb hg_ hnew_; clear hg_ hnew_; (first | rw [← Ny564.out] at ho21 | (simp only [Int.reduceToNat] at ho21; rw [← Ny564.out] at ho21)); replace HO0_1 := zA (kK (zPV HO0_1.out) (Kd.N_base ho21) hb); replace HO1 := zA (kK (zPV HO1.out) (Kd.N_base ho21) hb); have HO566 := zA (jN ho21 (kP (zT HB.out GE563.out))); replace BK563 := zA (zB1 BK563.out hb); replace HB := zA (kQ (zT HB.out GE563.out) hb); clear hb ho21; obtain ⟨Ao22, co22, eo22⟩ := Kd.N_slice HO566.out; subst eo22) | (refine zO (some 10) Tryd.func53 #[.agg #[.int .i64 a0_0, .slice A0_1 l0_1.length c0_1], .slice Ao22 y564.length co22] ?_; (with_reducible refine (impl_checkWords.calls k a0_0 _ _ l0_1 _ _ y564 t567 _ ?side1 ?side2 ?side3 ?side4 ?side5 A3.out).mono ?_); (case side1 => exact zS (kJ HO0_1.out).2.2); (case side2 => exact (kJ HO0_1.out).2.1); (case side3 => exact zS (Kd.N_reads' HO566.out).2.2); (case side4 => exact (Kd.N_reads' HO566.out).2.1); (case side5 => exact TabW.below HT.out (zT HB.out GE563.out)); rintro e w23 ⟨rfl, hb⟩; refine ⟨_, rfl, ?_⟩; replace HO0_1 := zA (kG (zPV HO0_1.out) hb); replace HO1 := zA (kG (zPV HO1.out) hb); replace HO566 := zA (kZ (zPN HO566.out) hb); replace BK563 := zA (zB1 BK563.out hb); replace HB := zA (kQ (zT HB.out GE563.out) hb); (try clear hb)))
 go_ret2
 exact ⟨zr, zT HB.out GE563.out⟩

/-! ### laws_FnComponents: function 6 -/
mutual
def laws_FnComponents.j0 : Nat → List Int → List (List Int) → Int → Bool → Int → List Int → Option (Bool)
 | 0, _, _, _, _, _, _ => none
 | k + 1, x4, x5, x6, x47, x583000, x583001 => if x47 = true then (none) else (if x6 = 0 then (laws_FnComponents.l0 k x4 x5 (([] : List Int)) (wrap64 ((x5.length : Int) - 1)) x583000 x583001) else (some true))
def laws_FnComponents.l0 : Nat → List Int → List (List Int) → List Int → Int → Int → List Int → Option (Bool)
 | 0, _, _, _, _, _, _ => none
 | k + 1, x4, x5, x9, x10, x583000, x583001 => if x10 ≥ 0 then (if 0 ≤ x10 then (if x10 < (x5.length : Int) then (if x9.length + (rd_L2 x5 x10).length < 17592186044416 then ((some (x9 ++ (rd_L2 x5 x10) : List Int)).bind fun y600 => ((impl_IsConnectedTrace.f k x583000 x583001 (rd_L2 x5 x10)).bind fun bt604 => (if bt604.2 = 0 then (laws_FnComponents.j2 k x4 x5 y600 x10 (!bt604.1) x583000 x583001) else (laws_FnComponents.j2 k x4 x5 y600 x10 true x583000 x583001)))) else (none)) else (none)) else (none)) else ((impl_AreSameTrace.f k x583000 x583001 x9 x4).bind fun bt595 => ((impl_IsConnectedTrace.f k x583000 x583001 x4).bind fun bt597 => (if bt595.2 = 0 then (if bt597.2 = 0 then (if bt595.1 = true then (some (bt597.1 == ((x5.length : Int) == 1))) else (none)) else (none)) else (none))))
def laws_FnComponents.j2 : Nat → List Int → List (List Int) → List Int → Int → Bool → Int → List Int → Option (Bool)
 | 0, _, _, _, _, _, _, _ => none
 | k + 1, x4, x5, x9, x10, x78, x583000, x583001 => if x78 = true then (none) else (laws_FnComponents.l1 k x4 x5 x9 x10 0 x583000 x583001)
def laws_FnComponents.l1 : Nat → List Int → List (List Int) → List Int → Int → Int → Int → List Int → Option (Bool)
 | 0, _, _, _, _, _, _, _ => none
 | k + 1, x4, x5, x9, x10, x13, x583000, x583001 => if x13 < x10 then (if 0 ≤ x10 then (if x10 < (x5.length : Int) then (if 0 ≤ x13 then (if x13 < (x5.length : Int) then ((impl_AreIndependent.f k x583000 x583001 (rd_L2 x5 x10) (rd_L2 x5 x13)).bind fun bt608 => (if bt608.2 = 0 then (if bt608.1 = true then (laws_FnComponents.l1 k x4 x5 x9 x10 (wrap64 (x13 + 1)) x583000 x583001) else (none)) else (none))) else (none)) else (none)) else (none)) else (none)) else (laws_FnComponents.l0 k x4 x5 x9 (wrap64 (x10 - 1)) x583000 x583001)
end
def laws_FnComponents.f (k : Nat) (l0 : List Int) : Option (Bool) := (laws_big.f l0).bind fun t574 => (if t574 = true then (some true) else ((spec_DrawTraceComponents.f k l0).bind fun bt575 => ((impl_TraceComponents.f k bt575.1 bt575.2.1 bt575.2.2).bind fun bt583 => ((spec_TraceComponents.f k bt575.1 bt575.2.1 bt575.2.2).bind fun bt587 => (if bt583.2 = bt587.2 then ((laws_likeRows5.f k bt583.1 bt587.1).bind fun t591 => (laws_FnComponents.j0 k bt575.2.2 bt583.1 bt583.2 (!t591) bt575.1 bt575.2.1)) else (laws_FnComponents.j0 k bt575.2.2 bt583.1 bt583.2 true bt575.1 bt575.2.1))))))

def laws_FnComponents.T15 : Bool × List (List Nat × List Nat) := (true, [([], []), ([], []), ([], []), ([1, 2], [1, 2]), ([3], [3]), ([0, 4], [0, 4]), ([5], [5]), ([6], [6]), ([6], [6]), ([7, 5, 0, 1, 2, 3, 4, 5, 6, 7], [7]), ([8, 9, 0, 1, 2, 3, 4, 5, 6, 7, 8, 9], [8])])
def laws_FnComponents.B15 : List Nat := [0, 0, 0, 6, 14, 31, 63, 127, 127, 255, 1023]
theorem laws_FnComponents.tab15 : rtab .any (opsOf Tryd.f6 15) = laws_FnComponents.T15 := by kernel_rfl
theorem laws_FnComponents.bits15 : waitsOk laws_FnComponents.T15.2 laws_FnComponents.B15 = true := by kernel_rfl
def laws_FnComponents.T21 : Bool × List (List Nat × List Nat) := (true, [([], []), ([], []), ([], []), ([1, 2], [1, 2]), ([3], [3]), ([], []), ([], []), ([5, 6], [5, 6]), ([7], [7]), ([0, 4, 8], [0, 4, 8]), ([9], [9]), ([10], [10]), ([10], [10]), ([11, 9, 0, 1, 2, 3, 4, 5, 6, 7, 8, 9, 10, 11], [11]), ([12, 13, 0, 1, 2, 3, 4, 5, 6, 7, 8, 9, 10, 11, 12, 13], [12])])
def laws_FnComponents.B21 : List Nat := [0, 0, 0, 6, 14, 0, 0, 96, 224, 511, 1023, 2047, 2047, 4095, 16383]
theorem laws_FnComponents.tab21 : rtab .any (opsOf Tryd.f6 21) = laws_FnComponents.T21 := by kernel_rfl
theorem laws_FnComponents.bits21 : waitsOk laws_FnComponents.T21.2 laws_FnComponents.B21 = true := by kernel_rfl
set_option maxHeartbeats 8000000 in
set_option maxRecDepth 100000 in
theorem laws_FnComponents.calls (k : Nat) (A0 : Option Addr) (c0 : Nat) (l0 : List Int) (r : Bool) (w : World) (hr0 : Kd.C (Kd.int .u8) w A0 l0.length l0) (hc0 : l0.length ≤ c0) (hT : TabW w) (h : laws_FnComponents.f k l0 = some r) :
  Calls Tryd.prog 6 #[.slice A0 l0.length c0] w fun e w' => e = .returned (.bool r) ∧ Below w.heap.size w w' := by
 have hu26 := Tryd.underlying26
 have HT := zA hT
 clear hT
 have HR0 := zA hr0
 have HC0 := zA hc0
 clear hr0 hc0
 have HB := zA (kW w.heap.size w)
 have H := h
 unfold laws_FnComponents.f at H
 clear h
 obtain ⟨t574, A2, H⟩ := zb H
 try dsimp only at H
 by_cases c3 : t574 = true
 ·subst c3
  rw [if_pos rfl] at H
  obtain rfl := Option.some.inj H
  go_enter Tryd.func6, Tryd.ntmps6
  go_wp2_with (first | (refine zO (some 21) Tryd.func7 #[.slice A0 l0.length c0] ?_; (with_reducible refine (laws_big.calls _ _ l0 true _ ?side1 ?side2 A2.out).mono ?_); (case side1 => exact zS HR0.out); (case side2 => exact HC0.out); rintro e w' ⟨rfl, ⟨nd, rfl⟩⟩; refine ⟨_, rfl, ?_⟩))
  go_ret
  exact ⟨zr, zQ HB.out⟩
 replace c3 := Bool.eq_false_iff.mpr c3
 subst c3
 rw [if_neg (show ¬ (false = true) by decide)] at H
 obtain ⟨⟨t575, t576, t579⟩, A4, H⟩ := zb H
 try dsimp only at H
 obtain ⟨⟨t583, t586⟩, A5, H⟩ := zb H
 try dsimp only at H
 obtain ⟨⟨t587, t590⟩, A6, H⟩ := zb H
 try dsimp only at H
 have HC7 := zA H
 clear H
 go_enter Tryd.func6, Tryd.ntmps6
 go_upto_region 6 with (first | (refine zO (some 21) Tryd.func7 #[.slice A0 l0.length c0] ?_; (with_reducible refine (laws_big.calls _ _ l0 false _ ?side1 ?side2 A2.out).mono ?_); (case side1 => exact zS HR0.out); (case side2 => exact HC0.out); rintro e w' ⟨rfl, ⟨nd, rfl⟩⟩; refine ⟨_, rfl, ?_⟩) | (refine zO (some 24) Tryd.func29 #[.slice A0 l0.length c0] ?_; (with_reducible refine (spec_DrawTraceComponents.calls k _ _ l0 t575 t576 t579 _ ?side1 ?side2 A4.out).mono ?_); (case side1 => exact zS HR0.out); (case side2 => exact HC0.out); rintro e w8 ⟨v577, v580, rfl, ho0, ho1, hb⟩; refine ⟨_, rfl, ?_⟩; have HO578 := zA (kI ho0 (kP (zQ HB.out))); have HO581 := zA (kI ho1 (kP (zQ HB.out))); replace HB := zA (kQ (zQ HB.out) hb); (try clear hb); (try clear ho0); (try clear ho1)) | (refine zBE 3 #[.int .i64 0, .slice none 0 0] 26 ?_; intro gb582 hg w9 hbox hb; replace HO578 := zA (kL (zP HO578.out) hb); replace HO581 := zA (kL (zP HO581.out) hb); have BK582 := zA (hbox); have GW582 := zA (zBH hg HB.out); have GE582 := zA (zBH hg HB.out); replace HB := zA (kQ (zQ HB.out) hb); clear hb hbox hg; obtain ⟨hcz10_0, hcz10_1, hfz10_0, hfz10_1⟩ := zB3 BK582.out; obtain ⟨Ao11, co11, eo11⟩ := kM HO578.out; subst eo11) | ((with_reducible refine gate_store (t := 26) (p := 3) rfl ?_); refine store_event (t := 26) (p := 3) (v := ?vo_w12) (w1 := ((w9.setCell ⟨gb582, 0, none⟩ (.int .i64 t575)).setCell ⟨gb582, 1, none⟩ (.slice Ao11 t576.length co11))) ?hg ?ho ?hn ?hr ?_; (case ho => rfl); (case hg => rfl); (case hn => rfl); (case hr => first | (go_simp; done) | (go_simp; rfl)); intro w12 hw; replace HO578 : Aside0 (Kd.R (Kd.int .i64) 2 w12 w.heap.size (fun k_ => some k_ ≠ (v580 : Value).ownBlock) (.slice Ao11 t576.length co11) t576) := ⟨(by rw [hw]; exact (by (with_reducible repeat (first | apply zF | apply zG | apply zH)); exact kA (kY (p := ⟨gb582, 1, none⟩) (kY (p := ⟨gb582, 0, none⟩) (kD HO578.out BK582.out (by decide)) (fun _ hk => hk.2) (.int .i64 t575)) (fun _ hk => hk.2) (.slice Ao11 t576.length co11)) (fun _ hk => hk.1)))⟩; replace HO581 : Aside0 (Kd.R (Kd.int .i64) 2 w12 w.heap.size (fun k_ => some k_ ≠ (.slice Ao11 t576.length co11 : Value).ownBlock) v580 t579) := ⟨(by rw [hw]; exact (by (with_reducible repeat (first | apply zF | apply zG | apply zH)); exact kA (kY (p := ⟨gb582, 1, none⟩) (kY (p := ⟨gb582, 0, none⟩) (kD HO581.out BK582.out (by decide)) (fun _ hk => hk.2) (.int .i64 t575)) (fun _ hk => hk.2) (.slice Ao11 t576.length co11)) (fun _ hk => hk.1)))⟩; replace BK582 : Aside0 (w12.heap[gb582]? = some (.cells #[.int .i64 t575, .slice Ao11 t576.length co11] 26 (0, 0))) := ⟨(by rw [hw]; exact (zRP BK582.out))⟩; replace HB : Aside0 (Below w.heap.size w w12) := ⟨(by rw [hw]; exact (zT HB.out GE582.out))⟩; clear hw; obtain ⟨hcz13_0, hcz13_1, hfz13_0, hfz13_1⟩ := zB3 BK582.out; obtain ⟨Ao14, co14, eo14⟩ := kM HO581.out; subst eo14) | (refine zO (some 30) Tryd.func30 #[.agg #[.int .i64 t575, .slice Ao11 t576.length co11], .slice Ao14 t579.length co14] ?_; (with_reducible refine (impl_TraceComponents.calls k t575 (fun k_ => some k_ = (.slice Ao11 t576.length co11 : Value).ownBlock) _ _ t576 (fun k_ => some k_ = (.slice Ao14 t579.length co14 : Value).ownBlock) _ _ t579 t583 t586 _ ?side1 ?side2 ?side3 A5.out).mono ?_); (case side1 => exact jL (jK rfl (kD (HO578.out) BK582.out (by decide)))); (case side2 => exact jL (jK rfl (kD (HO581.out) BK582.out (by decide)))); (case side3 => exact TabW.below HT.out (zT HB.out GE582.out)); rintro e w15 ⟨v584, rfl, ho0, hb⟩; refine ⟨_, rfl, ?_⟩; have HO585 := zA (jN (Kd.N_mono (ok' := fun k_ => k_ ≠ gb582) ho0 (fun k_ hk_ => Or.elim hk_ (fun hs_ => Or.elim hs_ (fun hs_ => ((kD (HO578.out) BK582.out (by decide)).1 k_ hs_.symm).2) (fun hs_ => ((kD (HO581.out) BK582.out (by decide)).1 k_ hs_.symm).2)) (fun hn_ => (jE (g := gb582) (o := .cells #[.int .i64 t575, .slice Ao11 t576.length co11] 26 (0, 0)) (zR BK582.out) k_ hn_)))) (kP (zT HB.out GE582.out))); replace HO578 := zA (kL (zP HO578.out) hb); replace HO581 := zA (kL (zP HO581.out) hb); replace BK582 := zA (zB1 BK582.out hb); replace HB := zA (kQ (zT HB.out GE582.out) hb); (try clear hb); (try clear ho0); obtain ⟨hcz16_0, hcz16_1, hfz16_0, hfz16_1⟩ := zB3 BK582.out) | (refine zO (some 36) Tryd.func31 #[.agg #[.int .i64 t575, .slice Ao11 t576.length co11], .slice Ao14 t579.length co14] ?_; (with_reducible refine (spec_TraceComponents.calls k t575 _ _ t576 _ _ t579 t587 t590 _ ?side1 ?side2 ?side3 ?side4 A6.out).mono ?_); (case side1 => exact zS (kB HO578.out).2.2); (case side2 => exact (kB HO578.out).2.1); (case side3 => exact zS (kB HO581.out).2.2); (case side4 => exact (kB HO581.out).2.1); rintro e w17 ⟨v588, rfl, ho0, hb⟩; refine ⟨_, rfl, ?_⟩; have HO589 := zA (jN (Kd.N_mono (ok' := fun k_ => some k_ ≠ (.slice Ao11 t576.length co11 : Value).ownBlock ∧ some k_ ≠ (.slice Ao14 t579.length co14 : Value).ownBlock ∧ some k_ ≠ (v584 : Value).ownBlock ∧ k_ ≠ gb582) (Kd.S_N (Kd.S_bound ho0)) (fun k_ hk_ => ⟨(jF (kH (zP HO578.out)) k_ hk_.2.1), (jF (kH (zP HO581.out)) k_ hk_.2.1), (jF (jA (zPN HO585.out)) k_ hk_.2.1), (jE (g := gb582) (o := .cells #[.int .i64 t575, .slice Ao11 t576.length co11] 26 (0, 0)) (zR BK582.out) k_ hk_.2.1)⟩)) (kP (zT HB.out GE582.out))); replace HO578 := zA (kL (zP HO578.out) hb); replace HO581 := zA (kL (zP HO581.out) hb); replace HO585 := zA (Kd.N_elder' (zPN HO585.out) (Kd.N_base (Kd.S_N ho0)) hb); replace BK582 := zA (zB1 BK582.out hb); replace HB := zA (kQ (zT HB.out GE582.out) hb); (try clear hb); (try clear ho0)))
 (try simp only [Act.put, zL, zM, zN])
 go_cut [47] (fun v47 wc => ∃ (kq : Nat) (x47_6 : Bool), v47 = .bool x47_6 ∧ Aside0 (laws_FnComponents.j0 kq t579 t583 t586 x47_6 t575 t576 = some r) ∧ Aside0 (kq ≤ k) ∧ Aside0 (Kd.R (Kd.int .i64) 2 wc w.heap.size (fun k_ => some k_ ≠ ((.slice Ao11 t576.length co11) : Value).ownBlock) (.slice Ao14 t579.length co14) t579) ∧ Aside0 (Kd.N (Kd.slice 2 (Kd.int .i64)) 24 wc w.heap.size (fun k_ => k_ ≠ gb582) v584 t583) ∧ Aside0 (Kd.R (Kd.int .i64) 2 wc w.heap.size (fun k_ => some k_ ≠ ((.slice Ao14 t579.length co14) : Value).ownBlock) (.slice Ao11 t576.length co11) t576) ∧ Aside0 (wc.heap[gb582]? = some (.cells #[.int .i64 t575, (.slice Ao11 t576.length co11)] 26 (0, 0))) ∧ Aside0 (Below w.heap.size w wc))
 case first => as_aux_lemma =>
  have H := HC7.out
  clear HC7
  by_cases c18 : t586 = t590
  ·rw [if_pos c18] at H
   obtain ⟨c18b0, c18b1⟩ := zT1 c18
   clear c18
   (first | rw [c18b0] | (simp only [i64_w, i32_w]; rw [c18b0]) | skip)
   obtain ⟨t591, A19, H⟩ := zb H
   try dsimp only at H
   have H' := zA H
   clear H
   obtain ⟨Ao20, co20, eo20⟩ := Kd.N_slice HO585.out
   subst eo20
   obtain ⟨Ao21, co21, eo21⟩ := Kd.N_slice HO589.out
   subst eo21
   go_wp2_with (first | (go_at_call 23; (with_reducible refine (laws_likeRows5.calls k _ _ t583 _ _ t587 t591 _ ?side1 ?side2 ?side3 ?side4 A19.out).mono ?_); (case side1 => exact zS (Kd.N_reads' HO585.out).2.2); (case side2 => exact (Kd.N_reads' HO585.out).2.1); (case side3 => exact zS (Kd.N_reads' HO589.out).2.2); (case side4 => exact (Kd.N_reads' HO589.out).2.1); rintro e w' ⟨rfl, ⟨nd, rfl⟩⟩))
   go_meet
   case rel => exact ⟨_, (!t591), zs, H', ⟨by first | omega | exact Nat.le_refl _⟩, ⟨zP HO581.out⟩, ⟨by (with_reducible repeat (first | apply Kd.N_alloc | apply Kd.N_drewN | apply Kd.N_drew)); exact Kd.N_mono HO585.out (fun _ hk => hk.1)⟩, ⟨zP HO578.out⟩, ⟨zR BK582.out⟩, ⟨zT HB.out GE582.out⟩⟩
  rw [if_neg c18] at H
  obtain ⟨c18b0, c18b1⟩ := zT2 c18
  (first | rw [c18b0] | (simp only [i64_w, i32_w]; rw [c18b0]) | skip)
  have H' := zA H
  clear H
  go_wp2
  go_meet
  case rel => exact ⟨_, (true), zs, H', ⟨by first | omega | exact Nat.le_refl _⟩, ⟨zP HO581.out⟩, ⟨by (with_reducible repeat (first | apply Kd.N_alloc | apply Kd.N_drewN | apply Kd.N_drew)); exact Kd.N_mono HO585.out (fun _ hk => hk.1)⟩, ⟨zP HO578.out⟩, ⟨zR BK582.out⟩, ⟨zT HB.out GE582.out⟩⟩
 case rest =>
  clear HC7
  try clear c1
  try clear c2
  try clear c3
  try clear c6
  try clear c7
  try clear c18
  try clear hcz10_0
  try clear hcz10_1
  try clear hcz13_0
  try clear hcz13_1
  try clear hcz16_0
  try clear hcz16_1
  try clear hfz10_0
  try clear hfz10_1
  try clear hfz13_0
  try clear hfz13_1
  try clear hfz16_0
  try clear hfz16_1
  obtain ⟨kq, x47_6, rfl, HA, HJ6, HO_4, HO_5, HO_583001, BK582, HB⟩ := hcut
  cases kq with
  | zero => exact absurd HA.out (by simp [laws_FnComponents.j0])
  | succ kj6 =>
   have H := HA.out
   clear HA
   simp only [laws_FnComponents.j0] at H
   by_cases c22 : x47_6 = true
   ·subst c22
    rw [if_pos rfl] at H
    exact absurd H (by simp)
   replace c22 := Bool.eq_false_iff.mpr c22
   subst c22
   rw [if_neg (show ¬ (false = true) by decide)] at H
   by_cases c23 : t586 = 0
   ·rw [if_pos c23] at H
    obtain ⟨c23b0, c23b1⟩ := zT1 c23
    clear c23
    obtain ⟨y592, hy592⟩ : ∃ y_ : List Int, y_ = (([] : List Int)) := ⟨_, rfl⟩
    replace H : (laws_FnComponents.l0 kj6 t579 t583 y592 (wrap64 ((t583.length : Int) - 1)) t575 t576) = some r := zy hy592 H
    have Ny592 := zA hy592
    clear hy592
    have H' := zA H
    clear H
    go_wp2_with (first | ((with_reducible refine kS (N := 50) rfl ?_); refine Kd.R_lit (Kd.int .i64) _ 2 ?hg (N := 50) ?hd (xs := ([] : List Int)) (inner := []) (ok := fun _ => True) (okp := fun _ => True) ?hr ?hp (fun _ hk => hk) trivial (kW _ _) (Nat.le_refl _) (by simp) ?_; (case hd => rfl); (case hg => rfl); (case hr => first | (go_simp; done) | (go_simp; rfl)); (case hp => exact (Reps.none _ _)); intro v593 w24 ho25 hb hg_ hnew_; clear hg_ hnew_; (first | rw [← Ny592.out] at ho25 | (simp only [Int.reduceToNat] at ho25; rw [← Ny592.out] at ho25)); replace HO_5 := zA (Kd.N_elder' (zPN HO_5.out) (kC ho25) hb); have HO594 := zA (kI (kF (kF ho25 (kH (zP HO_4.out))) (kH (zP HO_583001.out))) (kP (zT HB.out GE582.out))); replace HO_4 := zA (kE (zP HO_4.out) (kC ho25) hb); replace HO_583001 := zA (kE (zP HO_583001.out) (kC ho25) hb); replace BK582 := zA (zB1 BK582.out hb); replace HB := zA (kQ (zT HB.out GE582.out) hb); clear hb ho25; obtain ⟨Ao26, co26, eo26⟩ := Kd.N_slice HO_5.out; subst eo26))
    go_loopg [9, 10] kj6 (fun kq v9 v10 w' => ∃ (x9_2 : List Int) (x10_2 : Int), v10 = .int .i64 x10_2 ∧ Aside0 (laws_FnComponents.l0 kq t579 t583 x9_2 x10_2 t575 t576 = some r) ∧ Aside0 (kq ≤ kj6) ∧ Aside0 (Kd.R (Kd.int .i64) 2 w' w.heap.size (fun k_ => some k_ ≠ (v9 : Value).ownBlock ∧ some k_ ≠ ((.slice Ao11 t576.length co11) : Value).ownBlock) (.slice Ao14 t579.length co14) t579) ∧ Aside0 (Kd.N (Kd.slice 2 (Kd.int .i64)) 24 w' w.heap.size (fun k_ => some k_ ≠ (v9 : Value).ownBlock ∧ k_ ≠ gb582) (.slice Ao26 t583.length co26) t583) ∧ Aside0 (Kd.R (Kd.int .i64) 2 w' w.heap.size (fun k_ => some k_ ≠ ((.slice Ao14 t579.length co14) : Value).ownBlock ∧ some k_ ≠ ((.slice Ao11 t576.length co11) : Value).ownBlock) v9 x9_2) ∧ Aside0 (Kd.R (Kd.int .i64) 2 w' w.heap.size (fun k_ => some k_ ≠ ((.slice Ao14 t579.length co14) : Value).ownBlock ∧ some k_ ≠ (v9 : Value).ownBlock) (.slice Ao11 t576.length co11) t576) ∧ Aside0 (w'.heap[gb582]? = some (.cells #[.int .i64 t575, (.slice Ao11 t576.length co11)] 26 (0, 0))) ∧ Aside0 (Below w.heap.size w w'))
    case atStart => exact ⟨(y592), (wrap64 ((t583.length : Int) - 1)), zs, H', ⟨Nat.le_refl _⟩, ⟨zPM HO_4.out (fun _ hk => ⟨hk.2, hk.1⟩)⟩, ⟨by (with_reducible repeat (first | apply Kd.N_alloc | apply Kd.N_drewN | apply Kd.N_drew)); exact Kd.N_mono HO_5.out (fun _ hk => ⟨hk.2, hk.1⟩)⟩, ⟨zPM HO594.out (fun _ hk => ⟨hk.1.2, hk.2⟩)⟩, ⟨zP HO_583001.out⟩, ⟨zR BK582.out⟩, ⟨zT HB.out GE582.out⟩⟩
    case round =>
     clear H'
     try clear c1
     try clear c2
     try clear c3
     try clear c6
     try clear c7
     try clear c18
     try clear c22
     try clear c23
     try clear hcz10_0
     try clear hcz10_1
     try clear hcz13_0
     try clear hcz13_1
     try clear hcz16_0
     try clear hcz16_1
     try clear hfz10_0
     try clear hfz10_1
     try clear hfz13_0
     try clear hfz13_1
     try clear hfz16_0
     try clear hfz16_1
     obtain ⟨x9_2, x10_2, rfl, HA, HK2, HO_4, HO_5, HO_9, HO_583001, BK582, HB⟩ := hrel
     cases gk with
     | zero => exact absurd HA.out (by simp [laws_FnComponents.l0])
     | succ k2 =>
      have H := HA.out
      clear HA
      simp only [laws_FnComponents.l0] at H
      by_cases c27 : x10_2 ≥ 0
      ·rw [if_pos c27] at H
       have c27b0 : decide (0 ≤ x10_2) = true := decide_eq_true c27
       clear c27
       by_cases c28 : 0 ≤ x10_2
       ·rw [if_pos c28] at H
        have c28b0 : decide (0 ≤ x10_2) = true := decide_eq_true c28
        clear c28
        by_cases c29 : x10_2 < (t583.length : Int)
        ·rw [if_pos c29] at H
         have c29b0 : decide (x10_2 < (t583.length : Int)) = true := decide_eq_true c29
         clear c29
         by_cases c30 : x9_2.length + (rd_L2 t583 x10_2).length < 17592186044416
         ·rw [if_pos c30] at H
          have LMc30 := zA c30
          clear c30
          obtain ⟨y600, hy600⟩ : ∃ y_ : List Int, y_ = (x9_2 ++ (rd_L2 t583 x10_2)) := ⟨_, rfl⟩
          replace H : ((impl_IsConnectedTrace.f k2 t575 t576 (rd_L2 t583 x10_2)).bind fun bt604 => (if bt604.2 = 0 then (laws_FnComponents.j2 k2 t579 t583 y600 x10_2 (!bt604.1) t575 t576) else (laws_FnComponents.j2 k2 t579 t583 y600 x10_2 true t575 t576))) = some r := zy hy600 H
          have Ny600 := zA hy600
          clear hy600
          obtain ⟨⟨t604, t605⟩, A31, H⟩ := zb H
          try dsimp only at H
          have HC32 := zA H
          clear H
          have p599 : 0 ≤ (x10_2 : Int) := zd
          have q599 : x10_2 < (t583.length : Int) := zd
          obtain ⟨ad599, A599_0, c599_0, e599, hx599_0, hl599_0, hi599_0⟩ := at_L2 (Kd.N_reads' HO_5.out).2.2 x10_2 p599 q599
          cases e599
          obtain ⟨ce599, hce599, hMe599, hcc599⟩ := Kd.N_get HO_5.out [] x10_2 p599 (by first | exact q599 | exact zd | (have e_ := (Kd.N_reads' HO_5.out).1; omega))
          obtain ⟨ua599_0, uc599_0, rfl, ul599_0, ge599_0⟩ := Kd.FK_slice_open hMe599
          have hv599_0 := hcc599 0 _ rfl
          rw [Nat.add_zero, show ((Kd.slice 2 (Kd.int .i64))).sz = 1 from rfl, Nat.mul_one] at hv599_0
          replace hv599_0 := Option.some.inj (hv599_0.symm.trans hx599_0)
          injection hv599_0 with hva_ hvn_ hvc_
          rw [hva_] at ge599_0
          rw [hvc_] at ul599_0
          have HL599_0 := zA (show Kd.V (Kd.int .i64) 2 _ w.heap.size _ _ (rd_L2 t583 x10_2) from Kd.V_mk ul599_0 ge599_0)
          clear hva_ hvn_ hvc_ ge599_0 ul599_0 hcc599 hce599
          have HR599_0 := zA hi599_0
          have HC599_0 := zA hl599_0
          clear hi599_0 hl599_0
          replace p599 := eq_true p599
          replace q599 := eq_true q599
          try go_wp2_with (first | ((with_reducible refine gate_builtin (b := .append) (xs := #[.tmp 58, .tmp 62]) rfl ?_); at_builtin; refine Kd.R_append_rows (Kd.int .i64) (w0 := w) w.heap.size rfl (.tmp 58) (.tmp 62) 24 2 (.int .i64 0) 8 rfl Tryd.underlying24 info2 rfl (by decide) (by omega) u9 x9_2 (rd_L2 t583 x10_2) _ _ _ (fun k_ => some k_ ≠ (.slice Ao14 t579.length co14 : Value).ownBlock ∧ some k_ ≠ (.slice Ao11 t576.length co11 : Value).ownBlock) (fun _ => False) rfl rfl ?aO ?aR (fun _ _ h => h) (fun _ h => h.elim) ?aF ?aB ?aS ?aL ?_; (case aR => repeat (first | exact (by repeat (first | (with_reducible exact HR599_0.out) | (with_reducible refine Kd.C_alloc ?_ _) | (with_reducible refine Kd.C_drewN ?_ _) | (with_reducible refine Kd.C_drew ?_) | exact HR599_0.out)) | (with_reducible refine Kd.C_alloc ?_ _) | (with_reducible refine Kd.C_drewN ?_ _) | (with_reducible refine Kd.C_drew ?_))); (case aB => exact (zT HB.out GE582.out)); (case aF => exact (fun k_ hk => ⟨jF (kH (zP HO_4.out)) k_ hk, jF (kH (zP HO_583001.out)) k_ hk⟩)); (case aO => exact (zP HO_9.out)); (case aS => exact (kP (zT HB.out GE582.out))); (case aL => have := LMc30.out; omega); intro v601 w33 ho hb hg hat; rw [← Ny600.out] at ho; replace HO_4 := zA (Kd.R_after (ok := (fun k_ => some k_ ≠ (.slice Ao11 t576.length co11 : Value).ownBlock)) (by (with_reducible repeat (first | apply zF | apply zG | apply zH)); exact kA HO_4.out (fun _ hk => ⟨hk.2, hk.1⟩)) hg hat); replace HO_5 := zA (Kd.N_afterv (ok := (fun k_ => k_ ≠ gb582)) (by (with_reducible repeat (first | apply Kd.N_alloc | apply Kd.N_drewN | apply Kd.N_drew)); exact Kd.N_mono HO_5.out (fun _ hk => ⟨hk.2, hk.1⟩)) hg hat); replace HO_583001 := zA (Kd.R_after (ok := (fun k_ => some k_ ≠ (.slice Ao14 t579.length co14 : Value).ownBlock)) (zP HO_583001.out) hg hat); replace BK582 := zA (blk_grown (g := gb582) (o := .cells #[.int .i64 t575, .slice Ao11 t576.length co11] 26 (0, 0)) (zR BK582.out) hg (Kd.R_ne HO_9.out BK582.out (by decide))); replace HL599_0 := zA (Kd.V_afterv (ok := (fun k_ => some k_ ≠ (.slice (some ad599) t583.length co26 : Value).ownBlock ∧ k_ ≠ gb582)) (by (with_reducible repeat (first | apply Kd.V_alloc | apply Kd.V_drewN | apply Kd.V_drew)); exact kN HL599_0.out (fun _ hk => ⟨⟨hk.2, hk.1.2⟩, hk.1.1⟩)) hg hat); replace HB := zA (hb); have HO602 := zA (ho); clear HO_9; clear ho hb hg hat))
          replace HO_4 := zA (zH HO_4.out)
          replace HO_5 := zA (Kd.N_drew HO_5.out)
          replace HO_583001 := zA (zH HO_583001.out)
          replace HL599_0 := zA (Kd.V_drew HL599_0.out)
          replace HO602 := zA (zH HO602.out)
          replace BK582 := zA (zK BK582.out)
          replace HB := zA (zD HB.out)
          have p603 : 0 ≤ (x10_2 : Int) := zd
          have q603 : x10_2 < (t583.length : Int) := zd
          obtain ⟨ad603, A603_0, c603_0, e603, hx603_0, hl603_0, hi603_0⟩ := at_L2 (Kd.N_reads' HO_5.out).2.2 x10_2 p603 q603
          obtain rfl : ad599 = ad603 := (by injection e603)
          obtain ⟨ce603, hce603, hMe603, hcc603⟩ := Kd.N_get HO_5.out [] x10_2 p603 (by first | exact q603 | exact zd | (have e_ := (Kd.N_reads' HO_5.out).1; omega))
          obtain ⟨ua603_0, uc603_0, rfl, ul603_0, ge603_0⟩ := Kd.FK_slice_open hMe603
          have hv603_0 := hcc603 0 _ rfl
          rw [Nat.add_zero, show ((Kd.slice 2 (Kd.int .i64))).sz = 1 from rfl, Nat.mul_one] at hv603_0
          replace hv603_0 := Option.some.inj (hv603_0.symm.trans hx603_0)
          injection hv603_0 with hva_ hvn_ hvc_
          rw [hva_] at ge603_0
          rw [hvc_] at ul603_0
          have HL603_0 := zA (show Kd.V (Kd.int .i64) 2 _ w.heap.size _ _ (rd_L2 t583 x10_2) from Kd.V_mk ul603_0 ge603_0)
          clear hva_ hvn_ hvc_ ge603_0 ul603_0 hcc603 hce603
          have HR603_0 := zA hi603_0
          have HC603_0 := zA hl603_0
          clear hi603_0 hl603_0
          replace p603 := eq_true p603
          replace q603 := eq_true q603
          refine start_ (n := 11) (S := fun w' => w'.cell? ⟨gb582, 0, none⟩ = some (.int .i64 t575) ∧ w'.cell? ⟨gb582, 1, none⟩ = some (.slice Ao11 t576.length co11) ∧ w'.cell? (ad599.add (x10_2).toNat) = some (.slice A603_0 (rd_L2 t583 x10_2).length c603_0)) (ds := []) #[false, false, false, false, false, false, false, false, false, false, false] (by kernel_rfl) rfl rfl ⟨(kV BK582.out 0).trans rfl, (kV BK582.out 1).trans rfl, hx603_0⟩ (fun hHeld => ?_); refine with_tabW laws_FnComponents.tab15 laws_FnComponents.bits15 (fun HT_ HW_ => ?_)
          generalize w33.drew = w34 at HO_4 HO_5 HO_583001 HL599_0 HO602 BK582 HB HL603_0 HR603_0 hx603_0 hHeld ⊢
          refine zp 1 (some 66) #[false, true, false, false, false, false, false, false, false, false, false] HT_.out ?_
          refine zp 2 (some 67) #[false, true, true, false, false, false, false, false, false, false, false] HT_.out ?_
          refine zp 3 (some 68) #[false, true, true, true, false, false, false, false, false, false, false] HT_.out ?_
          refine ze 0 (some 65) #[true, true, true, true, false, false, false, false, false, false, false] HT_.out HW_.out hHeld ?_
          refine ze 4 (some 69) #[true, true, true, true, true, false, false, false, false, false, false] HT_.out HW_.out hHeld ?_
          refine one_ (i := 5) (N := some 70) #[true, true, true, true, true, true, false, false, false, false, false] rfl rfl (one_of HT_.out (by kernel_rfl)) (by decide) (fun K hK => ?_)
          refine goes_ Tryd.func32 (by kernel_rfl) rfl #[.agg #[.int .i64 t575, .slice Ao11 t576.length co11], .slice A603_0 (rd_L2 t583 x10_2).length c603_0] (by rfl) rfl rfl zg ?_
          with_reducible refine (impl_IsConnectedTrace.calls k2 t575 (fun k_ => some k_ = (.slice Ao11 t576.length co11 : Value).ownBlock) _ _ t576 (fun k_ => ((k_ ≠ gb582 ∧ some k_ ≠ (v601 : Value).ownBlock) ∧ some k_ ≠ (.slice (some ad599) t583.length co26 : Value).ownBlock)) _ _ (rd_L2 t583 x10_2) t604 t605 _ ?side1 ?side2 ?side3 A31.out).mono ?_
          (case side1 => exact jL (jK rfl (kD (Kd.R_apart' (HO_583001.out) (Kd.N_typed HO_5.out) (by decide)) BK582.out (by decide))))
          (case side2 => exact HL603_0.out)
          (case side3 => exact TabW.below HT.out (zT HB.out GE582.out))
          rintro e w35 ⟨rfl, hb⟩
          have HS2_ := (hb.cell (jG _ _ (hHeld.2.2))).trans (hHeld.2.2)
          refine ⟨_, rfl, ?_⟩
          replace HO_4 := zA (kL (zP HO_4.out) hb)
          replace HO_5 := zA (kZ (zPN HO_5.out) hb)
          replace HO_583001 := zA (kL (zP HO_583001.out) hb)
          replace HL599_0 := zA (kG (zPV HL599_0.out) hb)
          replace HO602 := zA (kL (zP HO602.out) hb)
          replace HL603_0 := zA (kG (zPV HL603_0.out) hb)
          replace BK582 := zA (zB1 BK582.out hb)
          replace HR603_0 := zA (kO (by repeat (first | (with_reducible exact HR603_0.out) | (with_reducible refine Kd.C_alloc ?_ _) | (with_reducible refine Kd.C_drewN ?_ _) | (with_reducible refine Kd.C_drew ?_) | exact HR603_0.out)) hb)
          replace HB := zA (kQ (zT HB.out GE582.out) hb)
          (try clear hb)
          (try clear hb2)
          (try clear hk)
          (try clear hi)
          (try clear hgw)
          refine hK.out _ _ ⟨(kV BK582.out 0).trans rfl, (kV BK582.out 1).trans rfl, HS2_⟩ (fun hHeld => ?_)
          clear hK K
          refine norm_ (a' := ?_) ?_ ?_
          rotate_left
          ·show Act.put _ (some 70) _ = _
           simp only [Act.put, zL, zM, zN, i64_w, i32_w]
           rfl
          refine zp 6 (some 64) #[true, true, true, true, true, true, true, false, false, false, false] HT_.out ?_
          refine zp 7 (some 71) #[true, true, true, true, true, true, true, true, false, false, false] HT_.out ?_
          refine zp 8 (some 72) #[true, true, true, true, true, true, true, true, true, false, false] HT_.out ?_
          refine zp 9 (some 11) #[true, true, true, true, true, true, true, true, true, true, false] HT_.out ?_
          refine zp 10 (some 12) #[true, true, true, true, true, true, true, true, true, true, true] HT_.out ?_
          refine done_ (done_of HT_.out (by kernel_rfl)) ?_
          go_upto_region 16 with (fail)
          go_cut [78] (fun v78 wc => ∃ (kq : Nat) (x78_31 : Bool), v78 = .bool x78_31 ∧ Aside0 (laws_FnComponents.j2 kq t579 t583 y600 x10_2 x78_31 t575 t576 = some r) ∧ Aside0 (kq ≤ k2) ∧ Aside0 (Kd.R (Kd.int .i64) 2 wc w.heap.size (fun k_ => some k_ ≠ (v601 : Value).ownBlock ∧ some k_ ≠ ((.slice Ao11 t576.length co11) : Value).ownBlock) (.slice Ao14 t579.length co14) t579) ∧ Aside0 (Kd.N (Kd.slice 2 (Kd.int .i64)) 24 wc w.heap.size (fun k_ => some k_ ≠ (v601 : Value).ownBlock ∧ k_ ≠ gb582) (.slice (some ad599) t583.length co26) t583) ∧ Aside0 (Kd.R (Kd.int .i64) 2 wc w.heap.size (fun k_ => some k_ ≠ ((.slice Ao14 t579.length co14) : Value).ownBlock ∧ some k_ ≠ ((.slice Ao11 t576.length co11) : Value).ownBlock) v601 y600) ∧ Aside0 (Kd.R (Kd.int .i64) 2 wc w.heap.size (fun k_ => some k_ ≠ ((.slice Ao14 t579.length co14) : Value).ownBlock ∧ some k_ ≠ (v601 : Value).ownBlock) (.slice Ao11 t576.length co11) t576) ∧ Aside0 (wc.heap[gb582]? = some (.cells #[.int .i64 t575, (.slice Ao11 t576.length co11)] 26 (0, 0))) ∧ Aside0 (Kd.C (Kd.int .i64) wc A603_0 (rd_L2 t583 x10_2).length (rd_L2 t583 x10_2)) ∧ Aside0 (Below w.heap.size w wc))
          case first => as_aux_lemma =>
           have H := HC32.out
           clear HC32
           by_cases c36 : t605 = 0
           ·rw [if_pos c36] at H
            obtain ⟨c36b0, c36b1⟩ := zT1 c36
            clear c36
            (first | rw [c36b0] | (simp only [i64_w, i32_w]; rw [c36b0]) | skip)
            have H' := zA H
            clear H
            go_wp2
            go_meet
            case rel => exact ⟨_, (!t604), zs, H', ⟨by have := HJ6.out; have := HK2.out; first | omega | exact Nat.le_refl _⟩, ⟨zPM HO_4.out (fun _ hk => ⟨hk.2, hk.1⟩)⟩, ⟨by (with_reducible repeat (first | apply Kd.N_alloc | apply Kd.N_drewN | apply Kd.N_drew)); exact Kd.N_mono HO_5.out (fun _ hk => ⟨hk.2, hk.1⟩)⟩, ⟨zP HO602.out⟩, ⟨zP HO_583001.out⟩, ⟨zR BK582.out⟩, ⟨by repeat (first | (with_reducible exact HR603_0.out) | (with_reducible refine Kd.C_alloc ?_ _) | (with_reducible refine Kd.C_drewN ?_ _) | (with_reducible refine Kd.C_drew ?_) | exact HR603_0.out)⟩, ⟨zT HB.out GE582.out⟩⟩
           rw [if_neg c36] at H
           obtain ⟨c36b0, c36b1⟩ := zT2 c36
           (first | rw [c36b0] | (simp only [i64_w, i32_w]; rw [c36b0]) | skip)
           have H' := zA H
           clear H
           go_wp2
           go_meet
           case rel => exact ⟨_, (true), zs, H', ⟨by have := HJ6.out; have := HK2.out; first | omega | exact Nat.le_refl _⟩, ⟨zPM HO_4.out (fun _ hk => ⟨hk.2, hk.1⟩)⟩, ⟨by (with_reducible repeat (first | apply Kd.N_alloc | apply Kd.N_drewN | apply Kd.N_drew)); exact Kd.N_mono HO_5.out (fun _ hk => ⟨hk.2, hk.1⟩)⟩, ⟨zP HO602.out⟩, ⟨zP HO_583001.out⟩, ⟨zR BK582.out⟩, ⟨by repeat (first | (with_reducible exact HR603_0.out) | (with_reducible refine Kd.C_alloc ?_ _) | (with_reducible refine Kd.C_drewN ?_ _) | (with_reducible refine Kd.C_drew ?_) | exact HR603_0.out)⟩, ⟨zT HB.out GE582.out⟩⟩
          case rest =>
           clear HC32
           try clear c1
           try clear c2
           try clear c3
           try clear c5
           try clear hx5
           try clear c6
           try clear hx6
           try clear c7
           try clear c18
           try clear c22
           try clear c23
           try clear c27
           try clear c28
           try clear c29
           try clear c30
           try clear c31
           try clear c32
           try clear c36
           try clear hcz10_0
           try clear hcz10_1
           try clear hcz13_0
           try clear hcz13_1
           try clear hcz16_0
           try clear hcz16_1
           try clear hfz10_0
           try clear hfz10_1
           try clear hfz13_0
           try clear hfz13_1
           try clear hfz16_0
           try clear hfz16_1
           try clear hx599_0
           try clear hx603_0
           obtain ⟨kq, x78_31, rfl, HA, HJ31, HO_4, HO_5, HO_9, HO_583001, BK582, HR603_0, HB⟩ := hcut
           cases kq with
           | zero => exact absurd HA.out (by simp [laws_FnComponents.j2])
           | succ kj31 =>
            have H := HA.out
            clear HA
            simp only [laws_FnComponents.j2] at H
            by_cases c37 : x78_31 = true
            ·subst c37
             rw [if_pos rfl] at H
             exact absurd H (by simp)
            replace c37 := Bool.eq_false_iff.mpr c37
            subst c37
            rw [if_neg (show ¬ (false = true) by decide)] at H
            have H' := zA H
            clear H
            go_wp2
            go_loopg [13] kj31 (fun kq v13 w' => ∃ (x13_4 : Int), v13 = .int .i64 x13_4 ∧ Aside0 (laws_FnComponents.l1 kq t579 t583 y600 x10_2 x13_4 t575 t576 = some r) ∧ Aside0 (kq ≤ kj31) ∧ Aside0 (Kd.R (Kd.int .i64) 2 w' w.heap.size (fun k_ => some k_ ≠ (v601 : Value).ownBlock ∧ some k_ ≠ ((.slice Ao11 t576.length co11) : Value).ownBlock) (.slice Ao14 t579.length co14) t579) ∧ Aside0 (Kd.N (Kd.slice 2 (Kd.int .i64)) 24 w' w.heap.size (fun k_ => some k_ ≠ (v601 : Value).ownBlock ∧ k_ ≠ gb582) (.slice (some ad599) t583.length co26) t583) ∧ Aside0 (Kd.R (Kd.int .i64) 2 w' w.heap.size (fun k_ => some k_ ≠ ((.slice Ao14 t579.length co14) : Value).ownBlock ∧ some k_ ≠ ((.slice Ao11 t576.length co11) : Value).ownBlock) v601 y600) ∧ Aside0 (Kd.R (Kd.int .i64) 2 w' w.heap.size (fun k_ => some k_ ≠ ((.slice Ao14 t579.length co14) : Value).ownBlock ∧ some k_ ≠ (v601 : Value).ownBlock) (.slice Ao11 t576.length co11) t576) ∧ Aside0 (w'.heap[gb582]? = some (.cells #[.int .i64 t575, (.slice Ao11 t576.length co11)] 26 (0, 0))) ∧ Aside0 (Kd.C (Kd.int .i64) w' A603_0 (rd_L2 t583 x10_2).length (rd_L2 t583 x10_2)) ∧ Aside0 (Below w.heap.size w w'))
            case atStart => exact ⟨(0), zs, H', ⟨Nat.le_refl _⟩, ⟨zP HO_4.out⟩, ⟨zPN HO_5.out⟩, ⟨zP HO_9.out⟩, ⟨zP HO_583001.out⟩, ⟨zR BK582.out⟩, ⟨by repeat (first | (with_reducible exact HR603_0.out) | (with_reducible refine Kd.C_alloc ?_ _) | (with_reducible refine Kd.C_drewN ?_ _) | (with_reducible refine Kd.C_drew ?_) | exact HR603_0.out)⟩, ⟨zT HB.out GE582.out⟩⟩
            case round =>
             clear H'
             try clear c1
             try clear c2
             try clear c3
             try clear c5
             try clear hx5
             try clear c6
             try clear hx6
             try clear c7
             try clear c18
             try clear c22
             try clear c23
             try clear c27
             try clear c28
             try clear c29
             try clear c30
             try clear c31
             try clear c32
             try clear c36
             try clear c37
             try clear hcz10_0
             try clear hcz10_1
             try clear hcz13_0
             try clear hcz13_1
             try clear hcz16_0
             try clear hcz16_1
             try clear hfz10_0
             try clear hfz10_1
             try clear hfz13_0
             try clear hfz13_1
             try clear hfz16_0
             try clear hfz16_1
             try clear hx599_0
             try clear hx603_0
             obtain ⟨x13_4, rfl, HA, HK4, HO_4, HO_5, HO_9, HO_583001, BK582, HR603_0, HB⟩ := hrel
             cases gk with
             | zero => exact absurd HA.out (by simp [laws_FnComponents.l1])
             | succ k4 =>
              have H := HA.out
              clear HA
              simp only [laws_FnComponents.l1] at H
              by_cases c38 : x13_4 < x10_2
              ·rw [if_pos c38] at H
               have c38b0 : decide (x13_4 < x10_2) = true := decide_eq_true c38
               clear c38
               by_cases c39 : 0 ≤ x10_2
               ·rw [if_pos c39] at H
                have c39b0 : decide (0 ≤ x10_2) = true := decide_eq_true c39
                clear c39
                by_cases c40 : x10_2 < (t583.length : Int)
                ·rw [if_pos c40] at H
                 have c40b0 : decide (x10_2 < (t583.length : Int)) = true := decide_eq_true c40
                 clear c40
                 by_cases c41 : 0 ≤ x13_4
                 ·rw [if_pos c41] at H
                  have c41b0 : decide (0 ≤ x13_4) = true := decide_eq_true c41
                  clear c41
                  by_cases c42 : x13_4 < (t583.length : Int)
                  ·rw [if_pos c42] at H
                   have c42b0 : decide (x13_4 < (t583.length : Int)) = true := decide_eq_true c42
                   clear c42
                   obtain ⟨⟨t608, t609⟩, A43, H⟩ := zb H
                   try dsimp only at H
                   by_cases c44 : t609 = 0
                   ·rw [if_pos c44] at H
                    obtain ⟨c44b0, c44b1⟩ := zT1 c44
                    clear c44
                    by_cases c45 : t608 = true
                    ·subst c45
                     rw [if_pos rfl] at H
                     have H' := zA H
                     clear H
                     try go_wp2
                     replace HO_4 := zA (zH HO_4.out)
                     replace HO_5 := zA (Kd.N_drew HO_5.out)
                     replace HO_9 := zA (zH HO_9.out)
                     replace HO_583001 := zA (zH HO_583001.out)
                     replace BK582 := zA (zK BK582.out)
                     replace HR603_0 := zA (Kd.C_drew HR603_0.out)
                     replace HB := zA (zD HB.out)
                     have p606 : 0 ≤ (x10_2 : Int) := zd
                     have q606 : x10_2 < (t583.length : Int) := zd
                     obtain ⟨ad606, A606_0, c606_0, e606, hx606_0, hl606_0, hi606_0⟩ := at_L2 (Kd.N_reads' HO_5.out).2.2 x10_2 p606 q606
                     obtain rfl : ad599 = ad606 := (by injection e606)
                     obtain ⟨ce606, hce606, hMe606, hcc606⟩ := Kd.N_get HO_5.out [] x10_2 p606 (by first | exact q606 | exact zd | (have e_ := (Kd.N_reads' HO_5.out).1; omega))
                     obtain ⟨ua606_0, uc606_0, rfl, ul606_0, ge606_0⟩ := Kd.FK_slice_open hMe606
                     have hv606_0 := hcc606 0 _ rfl
                     rw [Nat.add_zero, show ((Kd.slice 2 (Kd.int .i64))).sz = 1 from rfl, Nat.mul_one] at hv606_0
                     replace hv606_0 := Option.some.inj (hv606_0.symm.trans hx606_0)
                     injection hv606_0 with hva_ hvn_ hvc_
                     rw [hva_] at ge606_0
                     rw [hvc_] at ul606_0
                     have HL606_0 := zA (show Kd.V (Kd.int .i64) 2 _ w.heap.size _ _ (rd_L2 t583 x10_2) from Kd.V_mk ul606_0 ge606_0)
                     clear hva_ hvn_ hvc_ ge606_0 ul606_0 hcc606 hce606
                     have HR606_0 := zA hi606_0
                     have HC606_0 := zA hl606_0
                     clear hi606_0 hl606_0
                     replace p606 := eq_true p606
                     replace q606 := eq_true q606
                     have p607 : 0 ≤ (x13_4 : Int) := zd
                     have q607 : x13_4 < (t583.length : Int) := zd
                     obtain ⟨ad607, A607_0, c607_0, e607, hx607_0, hl607_0, hi607_0⟩ := at_L2 (Kd.N_reads' HO_5.out).2.2 x13_4 p607 q607
                     obtain rfl : ad599 = ad607 := (by injection e607)
                     obtain ⟨ce607, hce607, hMe607, hcc607⟩ := Kd.N_get HO_5.out [] x13_4 p607 (by first | exact q607 | exact zd | (have e_ := (Kd.N_reads' HO_5.out).1; omega))
                     obtain ⟨ua607_0, uc607_0, rfl, ul607_0, ge607_0⟩ := Kd.FK_slice_open hMe607
                     have hv607_0 := hcc607 0 _ rfl
                     rw [Nat.add_zero, show ((Kd.slice 2 (Kd.int .i64))).sz = 1 from rfl, Nat.mul_one] at hv607_0
                     replace hv607_0 := Option.some.inj (hv607_0.symm.trans hx607_0)
                     injection hv607_0 with hva_ hvn_ hvc_
                     rw [hva_] at ge607_0
                     rw [hvc_] at ul607_0
                     have HL607_0 := zA (show Kd.V (Kd.int .i64) 2 _ w.heap.size _ _ (rd_L2 t583 x13_4) from Kd.V_mk ul607_0 ge607_0)
                     clear hva_ hvn_ hvc_ ge607_0 ul607_0 hcc607 hce607
                     have HR607_0 := zA hi607_0
                     have HC607_0 := zA hl607_0
                     clear hi607_0 hl607_0
                     replace p607 := eq_true p607
                     replace q607 := eq_true q607
                     refine start_ (n := 15) (S := fun w' => w'.cell? ⟨gb582, 0, none⟩ = some (.int .i64 t575) ∧ w'.cell? ⟨gb582, 1, none⟩ = some (.slice Ao11 t576.length co11) ∧ w'.cell? (ad599.add (x10_2).toNat) = some (.slice A606_0 (rd_L2 t583 x10_2).length c606_0) ∧ w'.cell? (ad599.add (x13_4).toNat) = some (.slice A607_0 (rd_L2 t583 x13_4).length c607_0)) (ds := []) #[false, false, false, false, false, false, false, false, false, false, false, false, false, false, false] (by kernel_rfl) rfl rfl ⟨(kV BK582.out 0).trans rfl, (kV BK582.out 1).trans rfl, hx606_0, hx607_0⟩ (fun hHeld => ?_); refine with_tabW laws_FnComponents.tab21 laws_FnComponents.bits21 (fun HT_ HW_ => ?_)
                     generalize wr.drew = w46 at HO_4 HO_5 HO_9 HO_583001 BK582 HR603_0 HB HL606_0 HL607_0 HR606_0 HR607_0 hx606_0 hx607_0 hHeld ⊢
                     refine zp 1 (some 86) #[false, true, false, false, false, false, false, false, false, false, false, false, false, false, false] HT_.out ?_
                     refine zp 2 (some 87) #[false, true, true, false, false, false, false, false, false, false, false, false, false, false, false] HT_.out ?_
                     refine zp 3 (some 88) #[false, true, true, true, false, false, false, false, false, false, false, false, false, false, false] HT_.out ?_
                     refine zp 5 (some 90) #[false, true, true, true, false, true, false, false, false, false, false, false, false, false, false] HT_.out ?_
                     refine zp 6 (some 91) #[false, true, true, true, false, true, true, false, false, false, false, false, false, false, false] HT_.out ?_
                     refine zp 7 (some 92) #[false, true, true, true, false, true, true, true, false, false, false, false, false, false, false] HT_.out ?_
                     refine zf 0 (some 85) #[true, true, true, true, false, true, true, true, false, false, false, false, false, false, false] HT_.out HW_.out hHeld ?_
                     refine zf 4 (some 89) #[true, true, true, true, true, true, true, true, false, false, false, false, false, false, false] HT_.out HW_.out hHeld ?_
                     refine zf 8 (some 93) #[true, true, true, true, true, true, true, true, true, false, false, false, false, false, false] HT_.out HW_.out hHeld ?_
                     refine one_ (i := 9) (N := some 94) #[true, true, true, true, true, true, true, true, true, true, false, false, false, false, false] rfl rfl (one_of HT_.out (by kernel_rfl)) (by decide) (fun K hK => ?_)
                     refine goes_ Tryd.func24 (by kernel_rfl) rfl #[.agg #[.int .i64 t575, .slice Ao11 t576.length co11], .slice A606_0 (rd_L2 t583 x10_2).length c606_0, .slice A607_0 (rd_L2 t583 x13_4).length c607_0] (by rfl) rfl rfl zg ?_
                     with_reducible refine (impl_AreIndependent.calls k4 t575 (fun k_ => some k_ = (.slice Ao11 t576.length co11 : Value).ownBlock) _ _ t576 (fun k_ => ((some k_ ≠ (v601 : Value).ownBlock ∧ k_ ≠ gb582) ∧ some k_ ≠ (.slice (some ad599) t583.length co26 : Value).ownBlock)) _ _ (rd_L2 t583 x10_2) (fun k_ => ((some k_ ≠ (v601 : Value).ownBlock ∧ k_ ≠ gb582) ∧ some k_ ≠ (.slice (some ad599) t583.length co26 : Value).ownBlock)) _ _ (rd_L2 t583 x13_4) true t609 _ ?side1 ?side2 ?side3 ?side4 A43.out).mono ?_
                     (case side1 => exact jL (jK rfl (kD (Kd.R_apart' (HO_583001.out) (Kd.N_typed HO_5.out) (by decide)) BK582.out (by decide))))
                     (case side2 => exact HL606_0.out)
                     (case side3 => exact HL607_0.out)
                     (case side4 => exact TabW.below HT.out (zT HB.out GE582.out))
                     rintro e w47 ⟨rfl, hb⟩
                     have HS2_ := (hb.cell (jG _ _ (hHeld.2.2.1))).trans (hHeld.2.2.1)
                     have HS3_ := (hb.cell (jG _ _ (hHeld.2.2.2))).trans (hHeld.2.2.2)
                     refine ⟨_, rfl, ?_⟩
                     replace HO_4 := zA (kL (zP HO_4.out) hb)
                     replace HO_5 := zA (kZ (zPN HO_5.out) hb)
                     replace HO_9 := zA (kL (zP HO_9.out) hb)
                     replace HO_583001 := zA (kL (zP HO_583001.out) hb)
                     replace HL606_0 := zA (kG (zPV HL606_0.out) hb)
                     replace HL607_0 := zA (kG (zPV HL607_0.out) hb)
                     replace BK582 := zA (zB1 BK582.out hb)
                     replace HR603_0 := zA (kO (by repeat (first | (with_reducible exact HR603_0.out) | (with_reducible refine Kd.C_alloc ?_ _) | (with_reducible refine Kd.C_drewN ?_ _) | (with_reducible refine Kd.C_drew ?_) | exact HR603_0.out)) hb)
                     replace HR606_0 := zA (kO (by repeat (first | (with_reducible exact HR606_0.out) | (with_reducible refine Kd.C_alloc ?_ _) | (with_reducible refine Kd.C_drewN ?_ _) | (with_reducible refine Kd.C_drew ?_) | exact HR606_0.out)) hb)
                     replace HR607_0 := zA (kO (by repeat (first | (with_reducible exact HR607_0.out) | (with_reducible refine Kd.C_alloc ?_ _) | (with_reducible refine Kd.C_drewN ?_ _) | (with_reducible refine Kd.C_drew ?_) | exact HR607_0.out)) hb)
                     replace HB := zA (kQ (zT HB.out GE582.out) hb)
                     (try clear hb)
                     (try clear hb2)
                     (try clear hk)
                     (try clear hi)
                     (try clear hgw)
                     refine hK.out _ _ ⟨(kV BK582.out 0).trans rfl, (kV BK582.out 1).trans rfl, HS2_, HS3_⟩ (fun hHeld => ?_)
                     clear hK K
                     refine norm_ (a' := ?_) ?_ ?_
                     rotate_left
                     ·show Act.put _ (some 94) _ = _
                      simp only [Act.put, zL, zM, zN, i64_w, i32_w]
                      rfl
                     refine zp 10 (some 84) #[true, true, true, true, true, true, true, true, true, true, true, false, false, false, false] HT_.out ?_
                     refine zp 11 (some 95) #[true, true, true, true, true, true, true, true, true, true, true, true, false, false, false] HT_.out ?_
                     refine zp 12 (some 96) #[true, true, true, true, true, true, true, true, true, true, true, true, true, false, false] HT_.out ?_
                     refine zp 13 (some 14) #[true, true, true, true, true, true, true, true, true, true, true, true, true, true, false] HT_.out ?_
                     refine zp 14 (some 15) #[true, true, true, true, true, true, true, true, true, true, true, true, true, true, true] HT_.out ?_
                     refine done_ (done_of HT_.out (by kernel_rfl)) ?_
                     try go_wp2
                     go_roundg k4
                     case measure => have := HJ6.out; have := HK2.out; have := HJ31.out; have := HK4.out; omega
                     case rel => exact ⟨(wrap64 (x13_4 + 1)), zs, H', ⟨by have := HJ6.out; have := HK2.out; have := HJ31.out; have := HK4.out; omega⟩, ⟨zP HO_4.out⟩, ⟨zPN HO_5.out⟩, ⟨zP HO_9.out⟩, ⟨zP HO_583001.out⟩, ⟨zR BK582.out⟩, ⟨by repeat (first | (with_reducible exact HR603_0.out) | (with_reducible refine Kd.C_alloc ?_ _) | (with_reducible refine Kd.C_drewN ?_ _) | (with_reducible refine Kd.C_drew ?_) | exact HR603_0.out)⟩, ⟨zT HB.out GE582.out⟩⟩
                    replace c45 := Bool.eq_false_iff.mpr c45
                    subst c45
                    rw [if_neg (show ¬ (false = true) by decide)] at H
                    exact absurd H (by simp)
                   rw [if_neg c44] at H
                   exact absurd H (by simp)
                  rw [if_neg c42] at H
                  exact absurd H (by simp)
                 rw [if_neg c41] at H
                 exact absurd H (by simp)
                rw [if_neg c40] at H
                exact absurd H (by simp)
               rw [if_neg c39] at H
               exact absurd H (by simp)
              rw [if_neg c38] at H
              have c38b0 : decide (x13_4 < x10_2) = false := decide_eq_false c38
              clear c38
              have H' := zA H
              clear H
              go_wp2
              go_roundg k4
              case measure => have := HJ6.out; have := HK2.out; have := HJ31.out; have := HK4.out; omega
              case rel => exact ⟨(y600), (wrap64 (x10_2 - 1)), zs, H', ⟨by have := HJ6.out; have := HK2.out; have := HJ31.out; have := HK4.out; omega⟩, ⟨zP HO_4.out⟩, ⟨zPN HO_5.out⟩, ⟨zP HO_9.out⟩, ⟨zP HO_583001.out⟩, ⟨zR BK582.out⟩, ⟨zT HB.out GE582.out⟩⟩
         rw [if_neg c30] at H
         exact absurd H (by simp)
        rw [if_neg c29] at H
        exact absurd H (by simp)
       rw [if_neg c28] at H
       exact absurd H (by simp)
      rw [if_neg c27] at H
      have c27b0 : decide (0 ≤ x10_2) = false := decide_eq_false c27
      clear c27
      obtain ⟨⟨t595, t596⟩, A48, H⟩ := zb H
      try dsimp only at H
      obtain ⟨⟨t597, t598⟩, A49, H⟩ := zb H
      try dsimp only at H
      by_cases c50 : t596 = 0
      ·rw [if_pos c50] at H
       obtain ⟨c50b0, c50b1⟩ := zT1 c50
       clear c50
       by_cases c51 : t598 = 0
       ·rw [if_pos c51] at H
        obtain ⟨c51b0, c51b1⟩ := zT1 c51
        clear c51
        by_cases c52 : t595 = true
        ·subst c52
         rw [if_pos rfl] at H
         obtain rfl := Option.some.inj H
         obtain ⟨hcz53_0, hcz53_1, hfz53_0, hfz53_1⟩ := zB3 BK582.out
         obtain ⟨Ao54, co54, eo54⟩ := kM HO_9.out
         subst eo54
         go_wp2_with (first | (refine zO (some 107) Tryd.func25 #[.agg #[.int .i64 t575, .slice Ao11 t576.length co11], .slice Ao54 x9_2.length co54, .slice Ao14 t579.length co14] ?_; (with_reducible refine (impl_AreSameTrace.calls k2 t575 (fun k_ => some k_ = (.slice Ao11 t576.length co11 : Value).ownBlock) _ _ t576 (fun k_ => some k_ = (.slice Ao54 x9_2.length co54 : Value).ownBlock) _ _ x9_2 (fun k_ => some k_ = (.slice Ao14 t579.length co14 : Value).ownBlock) _ _ t579 true t596 _ ?side1 ?side2 ?side3 ?side4 A48.out).mono ?_); (case side1 => exact jL (jK rfl (kD (Kd.R_apart' (HO_583001.out) (Kd.N_typed HO_5.out) (by decide)) BK582.out (by decide)))); (case side2 => exact jL (jK rfl (kD (Kd.R_apart' (HO_9.out) (Kd.N_typed HO_5.out) (by decide)) BK582.out (by decide)))); (case side3 => exact jL (jK rfl (kD (Kd.R_apart' (HO_4.out) (Kd.N_typed HO_5.out) (by decide)) BK582.out (by decide)))); (case side4 => exact TabW.below HT.out (zT HB.out GE582.out)); rintro e w55 ⟨rfl, hb⟩; refine ⟨_, rfl, ?_⟩; replace HO_4 := zA (kL (zP HO_4.out) hb); replace HO_5 := zA (kZ (zPN HO_5.out) hb); replace HO_9 := zA (kL (zP HO_9.out) hb); replace HO_583001 := zA (kL (zP HO_583001.out) hb); replace BK582 := zA (zB1 BK582.out hb); replace HB := zA (kQ (zT HB.out GE582.out) hb); (try clear hb); obtain ⟨hcz56_0, hcz56_1, hfz56_0, hfz56_1⟩ := zB3 BK582.out) | (refine zO (some 113) Tryd.func32 #[.agg #[.int .i64 t575, .slice Ao11 t576.length co11], .slice Ao14 t579.length co14] ?_; (with_reducible refine (impl_IsConnectedTrace.calls k2 t575 (fun k_ => some k_ = (.slice Ao11 t576.length co11 : Value).ownBlock) _ _ t576 (fun k_ => some k_ = (.slice Ao14 t579.length co14 : Value).ownBlock) _ _ t579 t597 t598 _ ?side1 ?side2 ?side3 A49.out).mono ?_); (case side1 => exact jL (jK rfl (kD (Kd.R_apart' (HO_583001.out) (Kd.N_typed HO_5.out) (by decide)) BK582.out (by decide)))); (case side2 => exact jL (jK rfl (kD (Kd.R_apart' (HO_4.out) (Kd.N_typed HO_5.out) (by decide)) BK582.out (by decide)))); (case side3 => exact TabW.below HT.out (zT HB.out GE582.out)); rintro e w57 ⟨rfl, hb⟩; refine ⟨_, rfl, ?_⟩; replace HO_4 := zA (kL (zP HO_4.out) hb); replace HO_5 := zA (kZ (zPN HO_5.out) hb); replace HO_9 := zA (kL (zP HO_9.out) hb); replace HO_583001 := zA (kL (zP HO_583001.out) hb); replace BK582 := zA (zB1 BK582.out hb); replace HB := zA (kQ (zT HB.out GE582.out) hb); (try clear hb)))
         go_ret
         exact ⟨zr, zT HB.out GE582.out⟩
        replace c52 := Bool.eq_false_iff.mpr c52
        subst c52
        rw [if_neg (show ¬ (false = true) by decide)] at H
        exact absurd H (by simp)
       rw [if_neg c51] at H
       exact absurd H (by simp)
      rw [if_neg c50] at H
      exact absurd H (by simp)
   rw [if_neg c23] at H
   obtain ⟨c23b0, c23b1⟩ := zT2 c23
   obtain rfl := Option.some.inj H
   go_wp2
   go_ret
   exact ⟨zr, zT HB.out GE582.out⟩


end Go.Proofs.YtcboobfmenonhaaDoor.PAll
