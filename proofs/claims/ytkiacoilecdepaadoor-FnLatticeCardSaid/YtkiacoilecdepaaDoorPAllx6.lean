import Derived.Test.YtkiacoilecdepaaDoorPAllx0
import Derived.Test.YtkiacoilecdepaaDoorPAllx4
namespace Go.Proofs.YtkiacoilecdepaaDoor.PAll
open Go.RowKit Go.Proofs.YtkiacoilecdepaaDoor.T Go.Proofs.YtkiacoilecdepaaDoorW.PrintWords Go.Proofs.YtkiacoilecdepaaDoorW.PrintLast Go.Proofs.YtkiacoilecdepaaDoorW.PrintMore
attribute [local go_sem] max2_int min2_int max_two min_two max_three min_three max_four min_four   -- for this text's walks alone
set_option linter.unusedVariables false
set_option linter.unusedSimpArgs false
def spec_l01Own.f (l0 : List Int) : Option (List Int) := (some (([] : List Int) : List Int)).bind fun y595 => (if y595.length + l0.length < 17592186044416 then (some (y595 ++ l0)) else (none))
set_option maxHeartbeats 8000000 in
set_option maxRecDepth 100000 in
theorem spec_l01Own.calls (A0 : Option Addr) (c0 : Nat) (l0 : List Int) (r : List Int) (w : World) (hr0 : Kd.C (Kd.int .i64) w A0 l0.length l0) (hc0 : l0.length ≤ c0) (h : spec_l01Own.f l0 = some r) :
  Calls Tryd.prog 76 #[.slice A0 l0.length c0] w fun e w' => ∃ v0_ : Value, e = .returned (v0_) ∧ Kd.R (Kd.int .i64) 2 w' w.heap.size (fun _ => True) v0_ r ∧ Below w.heap.size w w' := by
 have HR0 := zA hr0
 have HC0 := zA hc0
 clear hr0 hc0
 have HB := zA (kW w.heap.size w)
 have H := h
 unfold spec_l01Own.f at H
 clear h
 obtain ⟨y595, hy595⟩ : ∃ y_ : List Int, y_ = (([] : List Int)) := ⟨_, rfl⟩
 replace H : (if y595.length + l0.length < 17592186044416 then (some (y595 ++ l0)) else (none)) = some r := zy hy595 H
 have Ny595 := zA hy595
 clear hy595
 by_cases c2 : y595.length + l0.length < 17592186044416
 ·rw [if_pos c2] at H
  have LMc2 := zA c2
  clear c2
  obtain ⟨y598, hy598⟩ : ∃ y_ : List Int, y_ = (y595 ++ l0) := ⟨_, rfl⟩
  replace H : (some y598) = some r := zy hy598 H
  have Ny598 := zA hy598
  clear hy598
  obtain rfl := Option.some.inj H
  go_enter Tryd.func76, Tryd.ntmps76
  go_wp2_with (first | ((with_reducible refine kS (N := 3) rfl ?_); refine Kd.R_lit (Kd.int .i64) _ 2 ?hg (N := 3) ?hd (xs := ([] : List Int)) (inner := []) (ok := fun _ => True) (okp := fun _ => True) ?hr ?hp (fun _ hk => hk) trivial (kW _ _) (Nat.le_refl _) (by simp) ?_; (case hd => rfl); (case hg => rfl); (case hr => first | (go_simp; done) | (go_simp; rfl)); (case hp => exact (Reps.none _ _)); intro v596 w3 ho4 hb hg_ hnew_; clear hg_ hnew_; (first | rw [← Ny595.out] at ho4 | (simp only [Int.reduceToNat] at ho4; rw [← Ny595.out] at ho4)); have HO597 := zA (kI ho4 (kP (zQ HB.out))); replace HB := zA (kQ (zQ HB.out) hb); clear hb ho4) | ((with_reducible refine gate_builtin (b := .append) (xs := #[.tmp 3, .tmp 4]) rfl ?_); at_builtin; refine Kd.R_append_rows (Kd.int .i64) (w0 := w) w.heap.size rfl (.tmp 3) (.tmp 4) 24 2 (.int .i64 0) 8 rfl Tryd.underlying24 info2 rfl (by decide) (by omega) v596 y595 l0 _ _ _ (fun _ => True) (fun _ => False) rfl rfl ?aO ?aR (fun _ _ h => h) (fun _ h => h.elim) ?aF ?aB ?aS ?aL ?_; (case aR => exact zS (kO HR0.out HB.out)); (case aB => exact (zQ HB.out)); (case aF => exact (fun _ _ => trivial)); (case aO => exact (zP HO597.out)); (case aS => exact (kP (zQ HB.out))); (case aL => have := LMc2.out; omega); intro v599 w5 ho hb hg hat; rw [← Ny598.out] at ho; replace HB := zA (hb); have HO600 := zA (ho); clear HO597; clear ho hb hg hat))
  go_ret
  exact ⟨_, zr, zP HO600.out, zQ HB.out⟩
 rw [if_neg c2] at H
 exact absurd H (by simp)
def spec_l03Without.f (l0 : List Int) (a1 : Int) : Option (List Int) := if 0 ≤ a1 then (if a1 ≤ (l0.length : Int) then ((spec_l01Own.f (l0.take (a1 : Int).toNat)).bind fun t602 => (if 0 ≤ (wrap64 (a1 + 1)) then (if (wrap64 (a1 + 1)) ≤ (l0.length : Int) then (if t602.length + (l0.drop ((wrap64 (a1 + 1)) : Int).toNat).length < 17592186044416 then (some (t602 ++ (l0.drop ((wrap64 (a1 + 1)) : Int).toNat))) else (none)) else (none)) else (none))) else (none)) else (none)
def spec_l03Without.T1 : Bool × List (List Nat × List Nat) := (true, [([], []), ([], []), ([0, 1], [0, 1]), ([2], [2]), ([], []), ([], []), ([5], [5]), ([4, 6], [4, 6]), ([3, 7, 3], [3, 7]), ([8, 8, 0, 1, 2, 3, 4, 5, 6, 7, 8], [8])])
def spec_l03Without.B1 : List Nat := [0, 0, 3, 7, 0, 0, 32, 112, 255, 511]
theorem spec_l03Without.tab1 : rtab .any (opsOf Tryd.f114 1) = spec_l03Without.T1 := by kernel_rfl
theorem spec_l03Without.bits1 : waitsOk spec_l03Without.T1.2 spec_l03Without.B1 = true := by kernel_rfl
set_option maxHeartbeats 8000000 in
set_option maxRecDepth 100000 in
theorem spec_l03Without.calls (A0 : Option Addr) (c0 : Nat) (l0 : List Int) (a1 : Int) (r : List Int) (w : World) (hr0 : Kd.C (Kd.int .i64) w A0 l0.length l0) (hc0 : l0.length ≤ c0) (h : spec_l03Without.f l0 a1 = some r) :
  Calls Tryd.prog 114 #[.slice A0 l0.length c0, .int .i64 a1] w fun e w' => ∃ v0_ : Value, e = .returned (v0_) ∧ Kd.R (Kd.int .i64) 2 w' w.heap.size (fun _ => True) v0_ r ∧ Below w.heap.size w w' := by
 have HR0 := zA hr0
 have HC0 := zA hc0
 clear hr0 hc0
 have HB := zA (kW w.heap.size w)
 have H := h
 unfold spec_l03Without.f at H
 clear h
 by_cases c3 : 0 ≤ a1
 ·rw [if_pos c3] at H
  have c3b0 := eq_true c3
  have c3b1 : decide (0 ≤ a1) = true := decide_eq_true c3
  clear c3
  by_cases c4 : a1 ≤ (l0.length : Int)
  ·rw [if_pos c4] at H
   have c4b0 := eq_true c4
   have c4b1 : decide (a1 ≤ (l0.length : Int)) = true := decide_eq_true c4
   clear c4
   obtain ⟨t602, A5, H⟩ := zb H
   try dsimp only at H
   obtain ⟨ji6, hji6⟩ : ∃ j_ : Int, (wrap64 (a1 + 1)) = j_ := ⟨_, rfl⟩
   replace H : (if 0 ≤ (ji6) then (if (ji6) ≤ (l0.length : Int) then (if t602.length + (l0.drop ((ji6) : Int).toNat).length < 17592186044416 then (some (t602 ++ (l0.drop ((ji6) : Int).toNat))) else (none)) else (none)) else (none)) = some r := by first | (rw [hji6] at H; exact H) | (simp only [hji6] at H ⊢; exact H)
   (try rw [hji6] at A5)
   have hji6w : (IntKind.i64.wrap (a1 + 1)) = ji6 := (i64_w _).trans hji6
   by_cases c7 : 0 ≤ (ji6)
   ·rw [if_pos c7] at H
    have c7b0 := eq_true c7
    have c7b1 : decide (0 ≤ (ji6)) = true := decide_eq_true c7
    clear c7
    by_cases c8 : (ji6) ≤ (l0.length : Int)
    ·rw [if_pos c8] at H
     have c8b0 := eq_true c8
     have c8b1 : decide ((ji6) ≤ (l0.length : Int)) = true := decide_eq_true c8
     clear c8
     by_cases c9 : t602.length + (l0.drop ((ji6) : Int).toNat).length < 17592186044416
     ·rw [if_pos c9] at H
      have LMc9 := zA c9
      clear c9
      obtain ⟨y606, hy606⟩ : ∃ y_ : List Int, y_ = (t602 ++ (l0.drop ((ji6) : Int).toNat)) := ⟨_, rfl⟩
      replace H : (some y606) = some r := zy hy606 H
      have Ny606 := zA hy606
      clear hy606
      obtain rfl := Option.some.inj H
      go_enter Tryd.func114, Tryd.ntmps114
      try go_wp2
      replace HB := zA (zD HB.out)
      obtain ⟨i011, hi011, _, hsz11, _⟩ := info_parts info2
      obtain ⟨hcut11, hA11, hC11⟩ := print_take_of (P := Tryd.prog) (Value.int .i64) 0 24 2 .i64 Tryd.underlying24 hi011 hsz11 A0 c0 l0 a1 (zd) (zd) HC0.out
      have HR601 := zA (Kd.C_of_reads (h1 := fun _ => rfl) (hA11 _ (Kd.reads_of_C HR0.out)))
      have HC601 := zA hC11
      clear hA11 hC11 hi011 hsz11
      obtain ⟨i012, hi012, _, hsz12, _⟩ := info_parts info2
      obtain ⟨A12, hcut12, hA12, hC12⟩ := print_drop_of (P := Tryd.prog) (Value.int .i64) 0 24 2 .i64 Tryd.underlying24 hi012 hsz12 A0 c0 l0 (ji6) (zd) (zd) HC0.out
      have HR605 := zA (Kd.C_of_reads (h1 := fun _ => rfl) (hA12 _ (Kd.reads_of_C HR0.out)))
      have HC605 := zA hC12
      clear hA12 hC12 hi012 hsz12
      refine start_ (n := 10) (S := fun w' => True) (ds := []) #[false, false, false, false, false, false, false, false, false, false] (by kernel_rfl) rfl rfl trivial (fun hHeld => ?_); refine with_tabW spec_l03Without.tab1 spec_l03Without.bits1 (fun HT_ HW_ => ?_)
      generalize w.drew = w10 at HB HR601 HR605 hHeld ⊢
      refine zp 0 (some 5) #[true, false, false, false, false, false, false, false, false, false] HT_.out ?_
      refine zp 1 (some 6) #[true, true, false, false, false, false, false, false, false, false] HT_.out ?_
      refine zp 2 (some 7) #[true, true, true, false, false, false, false, false, false, false] HT_.out ?_
      refine zp 4 (some 9) #[true, true, true, false, true, false, false, false, false, false] HT_.out ?_
      refine zp 5 (some 10) #[true, true, true, false, true, true, false, false, false, false] HT_.out ?_
      refine zp 6 (some 11) #[true, true, true, false, true, true, true, false, false, false] HT_.out ?_
      refine zp 7 (some 12) #[true, true, true, false, true, true, true, true, false, false] HT_.out ?_
      refine one_ (i := 3) (N := some 8) #[true, true, true, true, true, true, true, true, false, false] rfl rfl (one_of HT_.out (by kernel_rfl)) (by decide) (fun K hK => ?_)
      refine goes_ Tryd.func76 (by kernel_rfl) rfl #[.slice A0 (l0.take (a1 : Int).toNat).length c0] (by rfl) rfl rfl (by (try simp only [List.map_toArray, List.map_cons, List.map_nil]); first | done | (rw [show (l0.take (a1 : Int).toNat).length = a1.toNat from (by rw [List.length_take]; have h_ : (a1 : Int) ≤ (l0.length : Int) := zd; omega)] <;> rfl) | rfl | (simp only [List.length_drop, List.length_take]; rfl)) ?_
      with_reducible refine (spec_l01Own.calls _ _ (l0.take (a1 : Int).toNat) t602 _ ?side1 ?side2 A5.out).mono ?_
      (case side1 => exact zS (kO HR601.out HB.out))
      (case side2 => exact HC601.out)
      rintro e w13 ⟨v603, rfl, ho0, hb⟩
      refine ⟨_, rfl, ?_⟩
      have HO604 := zA (kI ho0 (kP (zQ HB.out)))
      replace HB := zA (kQ (zQ HB.out) hb)
      (try clear hb)
      (try clear hb2)
      (try clear hk)
      (try clear hi)
      (try clear hgw)
      (try clear ho0)
      refine hK.out _ _ trivial (fun hHeld => ?_)
      clear hK K
      refine norm_ (a' := ?_) ?_ ?_
      rotate_left
      ·show Act.put _ (some 8) _ = _
       simp only [Act.put, zL, zM, zN, i64_w, i32_w]
       rfl
      refine one_ (i := 8) (N := some 13) #[true, true, true, true, true, true, true, true, true, false] rfl rfl (one_of HT_.out (by kernel_rfl)) (by decide) (fun K hK => ?_)
      refine Kd.R_append_rows_step (Kd.int .i64) (w0 := w) w.heap.size (by rfl) (.tmp 8) (.tmp 12) 24 2 (.int .i64 0) 8 rfl Tryd.underlying24 info2 rfl (by decide) (by omega) v603 t602 (l0.drop ((ji6) : Int).toNat) _ _ _ (fun _ => True) (fun _ => False) rfl rfl ?aO ?aR (fun _ _ h => h) (fun _ h => h.elim) ?aF ?aB ?aS ?aL ?_
      (case aR => first | (rw [← show (l0.drop ((ji6) : Int).toNat).length = (l0.length - (ji6).toNat) from List.length_drop]; repeat (first | exact (kO HR605.out HB.out) | (with_reducible refine Kd.C_alloc ?_ _) | (with_reducible refine Kd.C_drewN ?_ _) | (with_reducible refine Kd.C_drew ?_))) | (repeat (first | exact (kO HR605.out HB.out) | (with_reducible refine Kd.C_alloc ?_ _) | (with_reducible refine Kd.C_drewN ?_ _) | (with_reducible refine Kd.C_drew ?_))))
      (case aB => exact (zQ HB.out))
      (case aF => exact (fun _ _ => trivial))
      (case aO => exact (zP HO604.out))
      (case aS => exact (kP (zQ HB.out)))
      (case aL => have := LMc9.out; have hlx_ := (show (l0.drop ((ji6) : Int).toNat).length = (l0.length - (ji6).toNat) from List.length_drop); omega)
      intro v607 w14 ho hb hg hat
      rw [← Ny606.out] at ho
      replace HB := zA (hb)
      have HO608 := zA (ho)
      clear HO604 ho hb hg hat
      refine hK.out _ _ trivial (fun hHeld => ?_)
      clear hK K
      refine norm_ (a' := ?_) ?_ ?_
      rotate_left
      ·show Act.put _ (some 13) _ = _
       simp only [Act.put, zL, zM, zN, i64_w, i32_w]
       rfl
      refine zp 9 (some 4) #[true, true, true, true, true, true, true, true, true, true] HT_.out ?_
      refine done_ (done_of HT_.out (by kernel_rfl)) ?_
      try go_wp2
      go_ret
      exact ⟨_, by first | rfl | (simp [errW_none, errW_some] <;> rfl) | (simp only [← hji6]; first | rfl | (simp [errW_none, errW_some] <;> rfl)) | (simp [*, errW_none, errW_some] <;> rfl), zP HO608.out, zQ HB.out⟩
     rw [if_neg c9] at H
     exact absurd H (by simp)
    rw [if_neg c8] at H
    exact absurd H (by simp)
   rw [if_neg c7] at H
   exact absurd H (by simp)
  rw [if_neg c4] at H
  exact absurd H (by simp)
 rw [if_neg c3] at H
 exact absurd H (by simp)
mutual
def spec_l03Normal.l0 : Nat → List Int → List Int → Int → List Int → Option (List Int)
 | 0, _, _, _, _ => none
 | k + 1, x5, x6, x610000, x610001 => if (x6.length : Int) > 0 then (spec_l03Normal.l1 k x5 x6 0 x610000 x610001) else (some x5)
def spec_l03Normal.l1 : Nat → List Int → List Int → Int → Int → List Int → Option (List Int)
 | 0, _, _, _, _, _ => none
 | k + 1, x5, x6, x7, x610000, x610001 => if x7 < x610000 then ((spec_l03First.f k x610000 x610001 x6 x7).bind fun t616 => (if t616 ≥ 0 then (if x5.length < 17592186044416 then ((spec_l03Without.f x6 t616).bind fun t620 => (spec_l03Normal.l0 k (x5 ++ [x7]) t620 x610000 x610001)) else (none)) else (spec_l03Normal.l1 k x5 x6 (wrap64 (x7 + 1)) x610000 x610001))) else (spec_l03Normal.l0 k x5 x6 x610000 x610001)
end
def spec_l03Normal.f (k : Nat) (a0_0 : Int) (l0_1 : List Int) (l1 : List Int) : Option (List Int) := (spec_l01Own.f l1).bind fun t613 => (spec_l03Normal.l0 k (([] : List Int)) t613 a0_0 l0_1)
set_option maxHeartbeats 8000000 in
set_option maxRecDepth 100000 in
theorem spec_l03Normal.calls (k : Nat) (a0_0 : Int) (A0_1 : Option Addr) (c0_1 : Nat) (l0_1 : List Int) (A1 : Option Addr) (c1 : Nat) (l1 : List Int) (r : List Int) (w : World) (hr0_1 : Kd.C (Kd.int .i64) w A0_1 l0_1.length l0_1) (hc0_1 : l0_1.length ≤ c0_1) (hr1 : Kd.C (Kd.int .i64) w A1 l1.length l1) (hc1 : l1.length ≤ c1) (h : spec_l03Normal.f k a0_0 l0_1 l1 = some r) :
  Calls Tryd.prog 68 #[.agg #[.int .i64 a0_0, .slice A0_1 l0_1.length c0_1], .slice A1 l1.length c1] w fun e w' => ∃ v0_ : Value, e = .returned (v0_) ∧ Kd.R (Kd.int .i64) 2 w' w.heap.size (fun _ => True) v0_ r ∧ Below w.heap.size w w' := by
 have hu26 := Tryd.underlying26
 have HR0_1 := zA hr0_1
 have HC0_1 := zA hc0_1
 clear hr0_1 hc0_1
 have HR1 := zA hr1
 have HC1 := zA hc1
 clear hr1 hc1
 have HB := zA (kW w.heap.size w)
 have H := h
 unfold spec_l03Normal.f at H
 clear h
 obtain ⟨y610, hy610⟩ : ∃ y_ : List Int, y_ = (([] : List Int)) := ⟨_, rfl⟩
 replace H : ((spec_l01Own.f l1).bind fun t613 => (spec_l03Normal.l0 k y610 t613 a0_0 l0_1)) = some r := zy hy610 H
 have Ny610 := zA hy610
 clear hy610
 obtain ⟨t613, A3, H⟩ := zb H
 try dsimp only at H
 have H' := zA H
 clear H
 go_enter Tryd.func68, Tryd.ntmps68
 go_wp2_with (first | (refine zBE 2 #[.int .i64 a0_0, .slice A0_1 l0_1.length c0_1] 26 ?_; intro gb609 hg w4 hbox hb; have BK609 := zA (hbox); have GW609 := zA (zBH hg HB.out); have GE609 := zA (zBH hg HB.out); replace HB := zA (kQ (zQ HB.out) hb); clear hb hbox hg) | ((with_reducible refine kS (N := 9) rfl ?_); refine Kd.R_lit (Kd.int .i64) _ 2 ?hg (N := 9) ?hd (xs := ([] : List Int)) (inner := []) (ok := fun _ => True) (okp := fun _ => True) ?hr ?hp (fun _ hk => hk) trivial (kW _ _) (Nat.le_refl _) (by simp) ?_; (case hd => rfl); (case hg => rfl); (case hr => first | (go_simp; done) | (go_simp; rfl)); (case hp => exact (Reps.none _ _)); intro v611 w5 ho6 hb hg_ hnew_; clear hg_ hnew_; (first | rw [← Ny610.out] at ho6 | (simp only [Int.reduceToNat] at ho6; rw [← Ny610.out] at ho6)); have HO612 := zA (kI ho6 (kP (zT HB.out GE609.out))); replace BK609 := zA (zB1 BK609.out hb); replace HB := zA (kQ (zT HB.out GE609.out) hb); clear hb ho6) | (refine zO (some 11) Tryd.func76 #[.slice A1 l1.length c1] ?_; (with_reducible refine (spec_l01Own.calls _ _ l1 t613 _ ?side1 ?side2 A3.out).mono ?_); (case side1 => exact zS (kO HR1.out HB.out)); (case side2 => exact HC1.out); rintro e w7 ⟨v614, rfl, ho0, hb⟩; refine ⟨_, rfl, ?_⟩; have HO615 := zA (kI (kF ho0 (kH (zP HO612.out))) (kP (zT HB.out GE609.out))); replace HO612 := zA (kE (zP HO612.out) (kC ho0) hb); replace BK609 := zA (zB1 BK609.out hb); replace HB := zA (kQ (zT HB.out GE609.out) hb); (try clear hb); (try clear ho0)))
 go_loopg [5, 6] k (fun kq v5 v6 w' => ∃ (x5_1 : List Int) (x6_1 : List Int), Aside0 (spec_l03Normal.l0 kq x5_1 x6_1 a0_0 l0_1 = some r) ∧ Aside0 (kq ≤ k) ∧ Aside0 (Kd.R (Kd.int .i64) 2 w' w.heap.size (fun k_ => some k_ ≠ (v6 : Value).ownBlock) v5 x5_1) ∧ Aside0 (Kd.R (Kd.int .i64) 2 w' w.heap.size (fun k_ => some k_ ≠ (v5 : Value).ownBlock) v6 x6_1) ∧ Aside0 (w'.heap[gb609]? = some (.cells #[.int .i64 a0_0, (.slice A0_1 l0_1.length c0_1)] 26 (0, 0))) ∧ Aside0 (Below w.heap.size w w'))
 case atStart => exact ⟨(y610), (t613), H', ⟨Nat.le_refl _⟩, ⟨zPM HO612.out (fun _ hk => hk.2)⟩, ⟨zPM HO615.out (fun _ hk => hk.2)⟩, ⟨zR BK609.out⟩, ⟨zT HB.out GE609.out⟩⟩
 case round =>
  clear H'
  try clear c1
  try clear c6
  try clear c7
  obtain ⟨x5_1, x6_1, HA, HK1, HO_5, HO_6, BK609, HB⟩ := hrel
  cases gk with
  | zero => exact absurd HA.out (by simp [spec_l03Normal.l0])
  | succ k1 =>
   have H := HA.out
   clear HA
   simp only [spec_l03Normal.l0] at H
   by_cases c8 : (x6_1.length : Int) > 0
   ·rw [if_pos c8] at H
    have c8b0 : decide (0 < (x6_1.length : Int)) = true := decide_eq_true c8
    have c8b1 : decide (0 < x6_1.length) = true := decide_eq_true (by omega)
    clear c8
    have H' := zA H
    clear H
    obtain ⟨Ao9, co9, eo9⟩ := kM HO_6.out
    subst eo9
    go_wp2
    go_loopg [5, 6, 7] k1 (fun kq v5 v6 v7 w' => ∃ (x5_2 : List Int) (x6_2 : List Int) (x7_2 : Int), v7 = .int .i64 x7_2 ∧ Aside0 (spec_l03Normal.l1 kq x5_2 x6_2 x7_2 a0_0 l0_1 = some r) ∧ Aside0 (kq ≤ k1) ∧ Aside0 (Kd.R (Kd.int .i64) 2 w' w.heap.size (fun k_ => some k_ ≠ (v6 : Value).ownBlock) v5 x5_2) ∧ Aside0 (Kd.R (Kd.int .i64) 2 w' w.heap.size (fun k_ => some k_ ≠ (v5 : Value).ownBlock) v6 x6_2) ∧ Aside0 (w'.heap[gb609]? = some (.cells #[.int .i64 a0_0, (.slice A0_1 l0_1.length c0_1)] 26 (0, 0))) ∧ Aside0 (Below w.heap.size w w'))
    case atStart => exact ⟨(x5_1), (x6_1), (0), zs, H', ⟨Nat.le_refl _⟩, ⟨zP HO_5.out⟩, ⟨zP HO_6.out⟩, ⟨zR BK609.out⟩, ⟨zT HB.out GE609.out⟩⟩
    case round =>
     clear H'
     try clear c1
     try clear c6
     try clear c7
     try clear c8
     obtain ⟨x5_2, x6_2, x7_2, rfl, HA, HK2, HO_5, HO_6, BK609, HB⟩ := hrel
     cases gk with
     | zero => exact absurd HA.out (by simp [spec_l03Normal.l1])
     | succ k2 =>
      have H := HA.out
      clear HA
      simp only [spec_l03Normal.l1] at H
      by_cases c10 : x7_2 < a0_0
      ·rw [if_pos c10] at H
       have c10b0 : decide (x7_2 < a0_0) = true := decide_eq_true c10
       clear c10
       obtain ⟨t616, A11, H⟩ := zb H
       try dsimp only at H
       by_cases c12 : t616 ≥ 0
       ·rw [if_pos c12] at H
        have c12b0 : decide (0 ≤ t616) = true := decide_eq_true c12
        clear c12
        by_cases c13 : x5_2.length < 17592186044416
        ·rw [if_pos c13] at H
         have LMc13 := zA c13
         clear c13
         obtain ⟨y617, hy617⟩ : ∃ y_ : List Int, y_ = (x5_2 ++ [x7_2]) := ⟨_, rfl⟩
         replace H : ((spec_l03Without.f x6_2 t616).bind fun t620 => (spec_l03Normal.l0 k2 y617 t620 a0_0 l0_1)) = some r := zy hy617 H
         have Ny617 := zA hy617
         clear hy617
         obtain ⟨t620, A14, H⟩ := zb H
         try dsimp only at H
         have H' := zA H
         clear H
         obtain ⟨hcz15_0, hcz15_1, hfz15_0, hfz15_1⟩ := zB3 BK609.out
         obtain ⟨Ao16, co16, eo16⟩ := kM HO_6.out
         subst eo16
         go_wp2_with (first | (refine zO (some 24) Tryd.func53 #[.agg #[.int .i64 a0_0, .slice A0_1 l0_1.length c0_1], .slice Ao16 x6_2.length co16, .int .i64 x7_2] ?_; (with_reducible refine (spec_l03First.calls k2 a0_0 _ _ l0_1 _ _ x6_2 x7_2 t616 _ ?side1 ?side2 ?side3 ?side4 A11.out).mono ?_); (case side1 => exact zS (kO HR0_1.out HB.out)); (case side2 => exact HC0_1.out); (case side3 => exact zS (kB HO_6.out).2.2); (case side4 => exact (kB HO_6.out).2.1); rintro e w17 ⟨rfl, hb⟩; refine ⟨_, rfl, ?_⟩; replace HO_5 := zA (kL (zP HO_5.out) hb); replace HO_6 := zA (kL (zP HO_6.out) hb); replace BK609 := zA (zB1 BK609.out hb); replace HB := zA (kQ (zT HB.out GE609.out) hb); (try clear hb)) | ((with_reducible refine gate_builtin (b := .append) (xs := #[.tmp 27, .tmp 29]) rfl ?_); at_builtin; refine Kd.R_append (Kd.int .i64) (w0 := w) w.heap.size rfl (.tmp 27) (.tmp 29) 24 2 (.int .i64 0) 8 rfl Tryd.underlying24 info2 rfl (by decide) (by omega) u5 x5_2 x7_2 [.int .i64 x7_2] (fun k_ => some k_ ≠ (.slice Ao16 x6_2.length co16 : Value).ownBlock) (fun _ => False) rfl rfl ?aP (fun _ hk => hk.elim) ?aF ?aO ?aB ?aS ?aL ?_; (case aP => exact rfl); (case aB => exact (zT HB.out GE609.out)); (case aF => exact (fun k_ hk => jF (kH (zP HO_6.out)) k_ hk)); (case aO => exact (zP HO_5.out)); (case aS => exact (kP (zT HB.out GE609.out))); (case aL => have := LMc13.out; omega); intro v618 w18 ho hb hg hat; rw [← Ny617.out] at ho; replace HO_6 := zA (Kd.R_after (ok := (fun _ => True)) (by (with_reducible repeat (first | apply zF | apply zG | apply zH)); exact kA HO_6.out (fun _ hk => ⟨trivial, hk⟩)) hg hat); replace BK609 := zA (blk_grown (g := gb609) (o := .cells #[.int .i64 a0_0, .slice A0_1 l0_1.length c0_1] 26 (0, 0)) (zR BK609.out) hg (Kd.R_ne HO_5.out BK609.out (by decide))); replace HB := zA (hb); have HO619 := zA (ho); clear HO_5; clear ho hb hg hat) | (refine zO (some 33) Tryd.func114 #[.slice Ao16 x6_2.length co16, .int .i64 t616] ?_; (with_reducible refine (spec_l03Without.calls _ _ x6_2 t616 t620 _ ?side1 ?side2 A14.out).mono ?_); (case side1 => exact zS (kB HO_6.out).2.2); (case side2 => exact (kB HO_6.out).2.1); rintro e w19 ⟨v621, rfl, ho0, hb⟩; refine ⟨_, rfl, ?_⟩; have HO622 := zA (kI (kF (kF ho0 (kH (zP HO_6.out))) (kH (zP HO619.out))) (kP (zT HB.out GE609.out))); replace HO_6 := zA (kE (zP HO_6.out) (kC ho0) hb); replace HO619 := zA (kE (zP HO619.out) (kC ho0) hb); replace BK609 := zA (zB1 BK609.out hb); replace HB := zA (kQ (zT HB.out GE609.out) hb); (try clear hb); (try clear ho0)))
         go_roundg k2
         case measure => have := HK1.out; have := HK2.out; omega
         case rel => exact ⟨(y617), (t620), H', ⟨by have := HK1.out; have := HK2.out; omega⟩, ⟨zPM HO619.out (fun _ hk => hk.2)⟩, ⟨zPM HO622.out (fun _ hk => hk.2)⟩, ⟨zR BK609.out⟩, ⟨zT HB.out GE609.out⟩⟩
        rw [if_neg c13] at H
        exact absurd H (by simp)
       rw [if_neg c12] at H
       have c12b0 : decide (0 ≤ t616) = false := decide_eq_false c12
       clear c12
       have H' := zA H
       clear H
       obtain ⟨hcz20_0, hcz20_1, hfz20_0, hfz20_1⟩ := zB3 BK609.out
       obtain ⟨Ao21, co21, eo21⟩ := kM HO_6.out
       subst eo21
       go_wp2_with (first | (refine zO (some 24) Tryd.func53 #[.agg #[.int .i64 a0_0, .slice A0_1 l0_1.length c0_1], .slice Ao21 x6_2.length co21, .int .i64 x7_2] ?_; (with_reducible refine (spec_l03First.calls k2 a0_0 _ _ l0_1 _ _ x6_2 x7_2 t616 _ ?side1 ?side2 ?side3 ?side4 A11.out).mono ?_); (case side1 => exact zS (kO HR0_1.out HB.out)); (case side2 => exact HC0_1.out); (case side3 => exact zS (kB HO_6.out).2.2); (case side4 => exact (kB HO_6.out).2.1); rintro e w22 ⟨rfl, hb⟩; refine ⟨_, rfl, ?_⟩; replace HO_5 := zA (kL (zP HO_5.out) hb); replace HO_6 := zA (kL (zP HO_6.out) hb); replace BK609 := zA (zB1 BK609.out hb); replace HB := zA (kQ (zT HB.out GE609.out) hb); (try clear hb)))
       go_roundg k2
       case measure => have := HK1.out; have := HK2.out; omega
       case rel => exact ⟨(x5_2), (x6_2), (wrap64 (x7_2 + 1)), zs, H', ⟨by have := HK1.out; have := HK2.out; omega⟩, ⟨zP HO_5.out⟩, ⟨zP HO_6.out⟩, ⟨zR BK609.out⟩, ⟨zT HB.out GE609.out⟩⟩
      rw [if_neg c10] at H
      have c10b0 : decide (x7_2 < a0_0) = false := decide_eq_false c10
      clear c10
      have H' := zA H
      clear H
      obtain ⟨hcz23_0, hcz23_1, hfz23_0, hfz23_1⟩ := zB3 BK609.out
      go_wp2
      go_roundg k2
      case measure => have := HK1.out; have := HK2.out; omega
      case rel => exact ⟨(x5_2), (x6_2), H', ⟨by have := HK1.out; have := HK2.out; omega⟩, ⟨zP HO_5.out⟩, ⟨zP HO_6.out⟩, ⟨zR BK609.out⟩, ⟨zT HB.out GE609.out⟩⟩
   rw [if_neg c8] at H
   have c8b0 : decide (0 < (x6_1.length : Int)) = false := decide_eq_false c8
   have c8b1 : decide (0 < x6_1.length) = false := decide_eq_false (by omega)
   clear c8
   obtain rfl := Option.some.inj H
   obtain ⟨Ao24, co24, eo24⟩ := kM HO_6.out
   subst eo24
   go_wp2
   go_ret
   exact ⟨_, zr, by (with_reducible repeat (first | apply zF | apply zG | apply zH)); exact kA HO_5.out (fun _ hk => trivial), zT HB.out GE609.out⟩
def laws_likeInts.l0 : Nat → List Int → List Int → Int → Option (Bool)
 | 0, _, _, _ => none
 | k + 1, x0, x1, x5 => if x5 < (x0.length : Int) then (if 0 ≤ x5 then (if x5 < (x1.length : Int) then (if (rd x0 x5) = (rd x1 x5) then (laws_likeInts.l0 k x0 x1 (wrap64 (x5 + 1))) else (some false)) else (none)) else (none)) else (some true)
def laws_likeInts.f (k : Nat) (l0 : List Int) (l1 : List Int) : Option (Bool) := if (l0.length : Int) = (l1.length : Int) then (laws_likeInts.l0 k l0 l1 0) else (some false)
set_option maxHeartbeats 8000000 in
set_option maxRecDepth 100000 in
theorem laws_likeInts.calls (k : Nat) (A0 : Option Addr) (c0 : Nat) (l0 : List Int) (A1 : Option Addr) (c1 : Nat) (l1 : List Int) (r : Bool) (w : World) (hr0 : Kd.C (Kd.int .i64) w A0 l0.length l0) (hc0 : l0.length ≤ c0) (hr1 : Kd.C (Kd.int .i64) w A1 l1.length l1) (hc1 : l1.length ≤ c1) (h : laws_likeInts.f k l0 l1 = some r) :
  Calls Tryd.prog 20 #[.slice A0 l0.length c0, .slice A1 l1.length c1] w fun e w' => e = .returned (.bool r) ∧ Drawn0 w w' := by
 have HR0 := zA hr0
 have HC0 := zA hc0
 clear hr0 hc0
 have HR1 := zA hr1
 have HC1 := zA hc1
 clear hr1 hc1
 have H := h
 unfold laws_likeInts.f at H
 clear h
 by_cases c3 : (l0.length : Int) = (l1.length : Int)
 ·rw [if_pos c3] at H
  obtain ⟨c3b0, c3b1⟩ := zT1 c3
  have c3b2 : (l0.length == l1.length) = true := by first | simpa using c3 | (simp at c3 ⊢; omega)
  clear c3
  have H' := zA H
  clear H
  go_enter Tryd.func20, Tryd.ntmps20
  go_wp2
  repeat (go_quiet (fail); try go_wp2)
  go_loopg [5] k (fun kq v5 w' => ∃ (x5_1 : Int), v5 = .int .i64 x5_1 ∧ Aside0 (laws_likeInts.l0 kq l0 l1 x5_1 = some r) ∧ Aside0 (kq ≤ k) ∧ Drawn0 w w')
  case atStart => exact ⟨(0), zs, H', ⟨Nat.le_refl _⟩, by repeat (first | exact Drawn0.refl _ | apply Drawn0.step)⟩
  case round =>
   clear H'
   try clear c1
   try clear c2
   try clear c3
   obtain ⟨x5_1, rfl, HA, HK1, ⟨m1, rfl⟩⟩ := hrel
   cases gk with
   | zero => exact absurd HA.out (by simp [laws_likeInts.l0])
   | succ k1 =>
    have H := HA.out
    clear HA
    simp only [laws_likeInts.l0] at H
    by_cases c4 : x5_1 < (l0.length : Int)
    ·rw [if_pos c4] at H
     have c4b0 : decide (x5_1 < (l0.length : Int)) = true := decide_eq_true c4
     clear c4
     by_cases c5 : 0 ≤ x5_1
     ·rw [if_pos c5] at H
      have c5b0 : decide (0 ≤ x5_1) = true := decide_eq_true c5
      clear c5
      by_cases c6 : x5_1 < (l1.length : Int)
      ·rw [if_pos c6] at H
       have c6b0 : decide (x5_1 < (l1.length : Int)) = true := decide_eq_true c6
       clear c6
       by_cases c7 : (rd l0 x5_1) = (rd l1 x5_1)
       ·rw [if_pos c7] at H
        obtain ⟨c7b0, c7b1⟩ := zT1 c7
        clear c7
        have H' := zA H
        clear H
        have p655 : 0 ≤ (x5_1 : Int) := zd
        have q655 : x5_1 < (l0.length : Int) := zd
        obtain ⟨ad655, e655, hx655_0⟩ := Kd.at_int HR0.out x5_1 p655 q655
        cases e655
        replace p655 := eq_true p655
        replace q655 := eq_true q655
        have p656 : 0 ≤ (x5_1 : Int) := zd
        have q656 : x5_1 < (l1.length : Int) := zd
        obtain ⟨ad656, e656, hx656_0⟩ := Kd.at_int HR1.out x5_1 p656 q656
        cases e656
        replace p656 := eq_true p656
        replace q656 := eq_true q656
        go_wp2
        repeat (go_quiet (fail); try go_wp2)
        go_roundg k1
        case measure => have := HK1.out; omega
        case rel => exact ⟨(wrap64 (x5_1 + 1)), zs, H', ⟨by have := HK1.out; omega⟩, by repeat (first | exact Drawn0.refl _ | apply Drawn0.step)⟩
       rw [if_neg c7] at H
       obtain ⟨c7b0, c7b1⟩ := zT2 c7
       obtain rfl := Option.some.inj H
       have p655 : 0 ≤ (x5_1 : Int) := zd
       have q655 : x5_1 < (l0.length : Int) := zd
       obtain ⟨ad655, e655, hx655_0⟩ := Kd.at_int HR0.out x5_1 p655 q655
       cases e655
       replace p655 := eq_true p655
       replace q655 := eq_true q655
       have p656 : 0 ≤ (x5_1 : Int) := zd
       have q656 : x5_1 < (l1.length : Int) := zd
       obtain ⟨ad656, e656, hx656_0⟩ := Kd.at_int HR1.out x5_1 p656 q656
       cases e656
       replace p656 := eq_true p656
       replace q656 := eq_true q656
       go_wp2
       repeat (go_quiet (fail); try go_wp2)
       go_ret
       exact ⟨zs, by repeat (first | exact Drawn0.refl _ | apply Drawn0.step)⟩
      rw [if_neg c6] at H
      exact absurd H (by simp)
     rw [if_neg c5] at H
     exact absurd H (by simp)
    rw [if_neg c4] at H
    have c4b0 : decide (x5_1 < (l0.length : Int)) = false := decide_eq_false c4
    clear c4
    obtain rfl := Option.some.inj H
    go_wp2
    repeat (go_quiet (fail); try go_wp2)
    go_ret
    exact ⟨zs, by repeat (first | exact Drawn0.refl _ | apply Drawn0.step)⟩
 rw [if_neg c3] at H
 obtain ⟨c3b0, c3b1⟩ := zT2 c3
 have c3b2 : (l0.length == l1.length) = false := by first | simpa using c3 | (simp at c3 ⊢; omega)
 obtain rfl := Option.some.inj H
 go_enter Tryd.func20, Tryd.ntmps20
 go_wp2
 repeat (go_quiet (fail); try go_wp2)
 go_ret
 exact ⟨zs, by repeat (first | exact Drawn0.refl _ | apply Drawn0.step)⟩
end Go.Proofs.YtkiacoilecdepaaDoor.PAll
