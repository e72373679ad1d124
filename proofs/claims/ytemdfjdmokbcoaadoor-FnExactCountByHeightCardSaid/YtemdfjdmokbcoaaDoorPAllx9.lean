-- Printed by a program of the session (wip/tools/pgen.py) out of the translation. Not trusted: Lean checks it.
import Derived.Test.YtemdfjdmokbcoaaDoorPAllx0
import Derived.Test.YtemdfjdmokbcoaaDoorPAllx1
import Derived.Test.YtemdfjdmokbcoaaDoorPAllx3
import Derived.Test.YtemdfjdmokbcoaaDoorPAllx8
namespace Go.Proofs.YtemdfjdmokbcoaaDoor.PAll
open Go.RowKit Go.Proofs.YtemdfjdmokbcoaaDoor.T Go.Proofs.YtemdfjdmokbcoaaDoorW.PrintWords Go.Proofs.YtemdfjdmokbcoaaDoorW.PrintLast Go.Proofs.YtemdfjdmokbcoaaDoorW.PrintMore
attribute [local go_sem] max2_int min2_int max_two min_two max_three min_three max_four min_four   -- for this text's walks alone
set_option linter.unusedVariables false
set_option linter.unusedSimpArgs false

/-! ### laws_FnExactCountByHeight: function 5 -/
def laws_eqInt64S_BFnExactCountByHeight.f (k : Nat) (l0 : List Int) (l1 : List Int) : Option (Bool) := laws_eqInt64S.f k l0 l1
theorem laws_eqInt64S_BFnExactCountByHeight.calls (k : Nat) (A0 : Option Addr) (c0 : Nat) (l0 : List Int) (A1 : Option Addr) (c1 : Nat) (l1 : List Int) (r : Bool) (w : World) (hr0 : Kd.C (Kd.int .i64) w A0 l0.length l0) (hc0 : l0.length ≤ c0) (hr1 : Kd.C (Kd.int .i64) w A1 l1.length l1) (hc1 : l1.length ≤ c1) (h : laws_eqInt64S_BFnExactCountByHeight.f k l0 l1 = some r) :
 Calls Tryd.prog 19 #[.slice A0 l0.length c0, .slice A1 l1.length c1] w fun e w' => e = .returned (.bool r) ∧ Below w.heap.size w w' := by
 refine (laws_eqInt64S.calls k A0 c0 l0 A1 c1 l1 r w hr0 hc0 hr1 hc1 h).mono ?_
 rintro e w' ⟨h1, h2⟩
 exact ⟨h1, Drawn0.below h2⟩
def laws_FnExactCountByHeight.f (k : Nat) (a0_0 : Int) (l0_1 : List Int) (a1 : Int) : Option (Bool) := (laws_szAlphabet.f a0_0 l0_1 1048576).bind fun t497 => (if t497 < 0 then (some true) else ((laws_toAlphabet.f k a0_0 l0_1).bind fun bt498 => ((spec_CountByHeight.f k bt498.1 bt498.2 a1).bind fun bt502 => ((laws_toAlphabet.f k a0_0 l0_1).bind fun bt506 => ((impl_CountByHeight.f k bt506.1 bt506.2 a1).bind fun bt511 => ((laws_eqInt64S_BFnExactCountByHeight.f k bt511.1 bt502.1).bind fun t515 => (if t515 = true then (if bt511.2 = bt502.2 then ((laws_toAlphabet.f k a0_0 l0_1).bind fun bt516 => ((laws_eqAlphabet.f k bt506.1 bt506.2 bt516.1 bt516.2).bind fun t520 => (if t520 = true then ((laws_markAlphabet.f k bt506.1 bt506.2 1).bind fun bt521 => (if bt521.1 < 0 then (none) else ((laws_eqInt64S_BFnExactCountByHeight.f k bt511.1 bt502.1).bind fun t523 => (if t523 = true then ((laws_markInt64S.f k bt511.1 1).bind fun bt524 => ((laws_heldInt64S.f k bt524.2 1).bind fun t526 => (if t526 < 0 then (none) else (if t526 = bt524.1 then ((laws_toAlphabet.f k a0_0 l0_1).bind fun bt527 => ((impl_CountByHeight.f k bt527.1 bt527.2 a1).bind fun bt531 => ((laws_eqInt64S_BFnExactCountByHeight.f k bt531.1 bt502.1).bind fun t535 => (if t535 = true then (if bt531.2 = bt502.2 then ((laws_heldInt64S.f k bt524.2 1).bind fun t536 => (if t536 < 0 then (none) else (if t536 = bt524.1 then (some true) else (none)))) else (none)) else (none))))) else (none))))) else (none))))) else (none)))) else (none)) else (none))))))))

set_option maxHeartbeats 8000000 in
set_option maxRecDepth 100000 in
theorem laws_FnExactCountByHeight.calls (k : Nat) (a0_0 : Int) (A0_1 : Option Addr) (c0_1 : Nat) (l0_1 : List Int) (a1 : Int) (r : Bool) (w : World) (hr0_1 : Kd.C (Kd.int .i64) w A0_1 l0_1.length l0_1) (hc0_1 : l0_1.length ≤ c0_1) (hT : TabW w) (h : laws_FnExactCountByHeight.f k a0_0 l0_1 a1 = some r) :
  Calls Tryd.prog 5 #[.agg #[.int .i64 a0_0, .slice A0_1 l0_1.length c0_1], .int .i64 a1] w fun e w' => e = .returned (.bool r) ∧ Below w.heap.size w w' := by
 have hu24 := Tryd.underlying24
 have hu29 := Tryd.underlying29
 have HT := zA hT
 clear hT
 have HR0_1 := zA hr0_1
 have HC0_1 := zA hc0_1
 clear hr0_1 hc0_1
 have HB := zA (kW w.heap.size w)
 have H := h
 unfold laws_FnExactCountByHeight.f at H
 clear h
 obtain ⟨t497, A3, H⟩ := zb H
 try dsimp only at H
 by_cases c4 : t497 < 0
 ·rw [if_pos c4] at H
  have c4b0 : decide (t497 < 0) = true := decide_eq_true c4
  clear c4
  obtain rfl := Option.some.inj H
  go_enter Tryd.func5, Tryd.ntmps5
  go_wp2_with (first | (refine zBE 2 #[.int .i64 a0_0, .slice A0_1 l0_1.length c0_1] 24 ?_; intro gb496 hg w5 hbox hb; have BK496 := zA (hbox); have GW496 := zA (zBH hg HB.out); have GE496 := zA (zBH hg HB.out); replace HB := zA (kQ (zQ HB.out) hb); clear hb hbox hg; obtain ⟨hcz6_0, hcz6_1, hfz6_0, hfz6_1⟩ := zB3 BK496.out) | (refine zO (some 18) Tryd.func6 #[.agg #[.int .i64 a0_0, .slice A0_1 l0_1.length c0_1], .int .i64 1048576] ?_; (with_reducible refine (laws_szAlphabet.calls a0_0 _ _ l0_1 1048576 t497 _ ?side1 ?side2 A3.out).mono ?_); (case side1 => exact zS (kO HR0_1.out HB.out)); (case side2 => exact HC0_1.out); rintro e w7 ⟨rfl, hb⟩; refine ⟨_, rfl, ?_⟩; replace BK496 := zA (zB1 BK496.out hb); replace HB := zA (kQ (zT HB.out GE496.out) hb); (try clear hb)))
  go_ret
  exact ⟨zr, zT HB.out GE496.out⟩
 rw [if_neg c4] at H
 have c4b0 : decide (t497 < 0) = false := decide_eq_false c4
 clear c4
 obtain ⟨⟨t498, t499⟩, A8, H⟩ := zb H
 try dsimp only at H
 obtain ⟨⟨t502, t505⟩, A9, H⟩ := zb H
 try dsimp only at H
 obtain ⟨⟨t506, t507⟩, A10, H⟩ := zb H
 try dsimp only at H
 obtain ⟨⟨t511, t514⟩, A11, H⟩ := zb H
 try dsimp only at H
 obtain ⟨t515, A12, H⟩ := zb H
 try dsimp only at H
 by_cases c13 : t515 = true
 ·subst c13
  rw [if_pos rfl] at H
  by_cases c14 : t514 = t505
  ·rw [if_pos c14] at H
   obtain ⟨c14b0, c14b1⟩ := zT1 c14
   clear c14
   obtain ⟨⟨t516, t517⟩, A15, H⟩ := zb H
   try dsimp only at H
   obtain ⟨t520, A16, H⟩ := zb H
   try dsimp only at H
   by_cases c17 : t520 = true
   ·subst c17
    rw [if_pos rfl] at H
    obtain ⟨⟨t521, t522⟩, A18, H⟩ := zb H
    try dsimp only at H
    by_cases c19 : t521 < 0
    ·rw [if_pos c19] at H
     exact absurd H (by simp)
    rw [if_neg c19] at H
    have c19b0 : decide (t521 < 0) = false := decide_eq_false c19
    clear c19
    obtain ⟨t523, A20, H⟩ := zb H
    try dsimp only at H
    by_cases c21 : t523 = true
    ·subst c21
     rw [if_pos rfl] at H
     obtain ⟨⟨t524, t525⟩, A22, H⟩ := zb H
     try dsimp only at H
     obtain ⟨t526, A23, H⟩ := zb H
     try dsimp only at H
     by_cases c24 : t526 < 0
     ·rw [if_pos c24] at H
      exact absurd H (by simp)
     rw [if_neg c24] at H
     have c24b0 : decide (t526 < 0) = false := decide_eq_false c24
     clear c24
     by_cases c25 : t526 = t524
     ·rw [if_pos c25] at H
      obtain ⟨c25b0, c25b1⟩ := zT1 c25
      clear c25
      obtain ⟨⟨t527, t528⟩, A26, H⟩ := zb H
      try dsimp only at H
      obtain ⟨⟨t531, t534⟩, A27, H⟩ := zb H
      try dsimp only at H
      obtain ⟨t535, A28, H⟩ := zb H
      try dsimp only at H
      by_cases c29 : t535 = true
      ·subst c29
       rw [if_pos rfl] at H
       by_cases c30 : t534 = t505
       ·rw [if_pos c30] at H
        obtain ⟨c30b0, c30b1⟩ := zT1 c30
        clear c30
        obtain ⟨t536, A31, H⟩ := zb H
        try dsimp only at H
        by_cases c32 : t536 < 0
        ·rw [if_pos c32] at H
         exact absurd H (by simp)
        rw [if_neg c32] at H
        have c32b0 : decide (t536 < 0) = false := decide_eq_false c32
        clear c32
        by_cases c33 : t536 = t524
        ·rw [if_pos c33] at H
         obtain ⟨c33b0, c33b1⟩ := zT1 c33
         clear c33
         obtain rfl := Option.some.inj H
         go_enter Tryd.func5, Tryd.ntmps5
         try go_wp2_with (first | (refine zBE 2 #[.int .i64 a0_0, .slice A0_1 l0_1.length c0_1] 24 ?_; intro gb496 hg w34 hbox hb; have BK496 := zA (hbox); have GW496 := zA (zBH hg HB.out); have GE496 := zA (zBH hg HB.out); replace HB := zA (kQ (zQ HB.out) hb); clear hb hbox hg; obtain ⟨hcz35_0, hcz35_1, hfz35_0, hfz35_1⟩ := zB3 BK496.out) | (refine zO (some 18) Tryd.func6 #[.agg #[.int .i64 a0_0, .slice A0_1 l0_1.length c0_1], .int .i64 1048576] ?_; (with_reducible refine (laws_szAlphabet.calls a0_0 _ _ l0_1 1048576 t497 _ ?side1 ?side2 A3.out).mono ?_); (case side1 => exact zS (kO HR0_1.out HB.out)); (case side2 => exact HC0_1.out); rintro e w36 ⟨rfl, hb⟩; refine ⟨_, rfl, ?_⟩; replace BK496 := zA (zB1 BK496.out hb); replace HB := zA (kQ (zT HB.out GE496.out) hb); (try clear hb); obtain ⟨hcz37_0, hcz37_1, hfz37_0, hfz37_1⟩ := zB3 BK496.out) | (refine zO (some 23) Tryd.func8 #[.agg #[.int .i64 a0_0, .slice A0_1 l0_1.length c0_1]] ?_; (with_reducible refine (laws_toAlphabet.calls k a0_0 _ _ l0_1 t498 t499 _ ?side1 ?side2 A8.out).mono ?_); (case side1 => exact zS (kO HR0_1.out HB.out)); (case side2 => exact HC0_1.out); rintro e w38 ⟨v500, rfl, ho0, hb⟩; refine ⟨_, rfl, ?_⟩; have HO501 := zA (kI ho0 (kP (zT HB.out GE496.out))); replace BK496 := zA (zB1 BK496.out hb); replace HB := zA (kQ (zT HB.out GE496.out) hb); (try clear hb); (try clear ho0); obtain ⟨Ao39, co39, eo39⟩ := kM HO501.out; subst eo39) | (refine zO (some 25) Tryd.func17 #[.agg #[.int .i64 t498, .slice Ao39 t499.length co39], .int .i64 a1] ?_; (with_reducible refine (spec_CountByHeight.calls k t498 _ _ t499 a1 t502 t505 _ ?side1 ?side2 A9.out).mono ?_); (case side1 => exact zS (kB HO501.out).2.2); (case side2 => exact (kB HO501.out).2.1); rintro e w40 ⟨v503, rfl, ho0, hb⟩; refine ⟨_, rfl, ?_⟩; have HO504 := zA (kI (kF ho0 (kH (zP HO501.out))) (kP (zT HB.out GE496.out))); replace HO501 := zA (kE (zP HO501.out) (kC ho0) hb); replace BK496 := zA (zB1 BK496.out hb); replace HB := zA (kQ (zT HB.out GE496.out) hb); (try clear hb); (try clear ho0); obtain ⟨hcz41_0, hcz41_1, hfz41_0, hfz41_1⟩ := zB3 BK496.out) | (refine zO (some 29) Tryd.func8 #[.agg #[.int .i64 a0_0, .slice A0_1 l0_1.length c0_1]] ?_; (with_reducible refine (laws_toAlphabet.calls k a0_0 _ _ l0_1 t506 t507 _ ?side1 ?side2 A10.out).mono ?_); (case side1 => exact zS (kO HR0_1.out HB.out)); (case side2 => exact HC0_1.out); rintro e w42 ⟨v508, rfl, ho0, hb⟩; refine ⟨_, rfl, ?_⟩; have HO509 := zA (kI (kF (kF ho0 (kH (zP HO501.out))) (kH (zP HO504.out))) (kP (zT HB.out GE496.out))); replace HO501 := zA (kE (zP HO501.out) (kC ho0) hb); replace HO504 := zA (kE (zP HO504.out) (kC ho0) hb); replace BK496 := zA (zB1 BK496.out hb); replace HB := zA (kQ (zT HB.out GE496.out) hb); (try clear hb); (try clear ho0)) | (refine zBE 8 #[.int .i64 0, .slice none 0 0] 29 ?_; intro gb510 hg w43 hbox hb; replace HO501 := zA (kL (zP HO501.out) hb); replace HO504 := zA (kL (zP HO504.out) hb); replace HO509 := zA (kL (zP HO509.out) hb); have BK510 := zA (hbox); have GW510 := zA (zB6 hg (kP (zT HB.out GE496.out)) : w.heap.size ≤ gb510); have GE510 := zA (zB6 hg (kP (zT HB.out GE496.out)) : w.heap.size ≤ gb510); replace HB := zA (kQ (zT HB.out GE496.out) hb); have NB496_510 := zA (zB4 hg BK496.out : gb496 ≠ gb510); have NB510_496 := zA (zB5 hg BK496.out : gb510 ≠ gb496); replace BK496 := zA (zB1 BK496.out hb); clear hb hbox hg; have hnb44 := NB510_496.out; have hnc44 := NB496_510.out; obtain ⟨hcz45_0, hcz45_1, hfz45_0, hfz45_1⟩ := zB3 BK510.out; obtain ⟨Ao46, co46, eo46⟩ := kM HO509.out; subst eo46) | (refine zO (some 33) Tryd.func18 #[.agg #[.int .i64 t506, .slice Ao46 t507.length co46], .int .i64 a1] ?_; (with_reducible refine (impl_CountByHeight.calls k t506 _ _ t507 a1 t511 t514 _ ?side1 ?side2 ?side3 A11.out).mono ?_); (case side1 => refine (kB (e := 2) (base := w.heap.size) (ok := fun k_ => ((True ∧ some k_ ≠ (.slice Ao39 t499.length co39 : Value).ownBlock) ∧ some k_ ≠ (v503 : Value).ownBlock)) (n := t507.length) (c := co46) ?_).2.2; exact (zP (zFG HO509.out BK510.out (.int .i64 t506) (.slice Ao46 t507.length co46)))); (case side2 => exact (kB HO509.out).2.1); (case side3 => exact TabW.below HT.out (zV HB.out GE496.out GE510.out)); rintro e w47 ⟨v512, rfl, ho0, hb⟩; refine ⟨_, rfl, ?_⟩; have HO513 := zA (kI (kF (kF (kF ho0 (kH (zP (zFG HO501.out BK510.out (.int .i64 t506) (.slice Ao46 t507.length co46))))) (kH (zP (zFG HO504.out BK510.out (.int .i64 t506) (.slice Ao46 t507.length co46))))) (kH (zP (zFG HO509.out BK510.out (.int .i64 t506) (.slice Ao46 t507.length co46))))) (kP (zV HB.out GE496.out GE510.out))); replace HO501 := zA (kE (zP (zFG HO501.out BK510.out (.int .i64 t506) (.slice Ao46 t507.length co46))) (kC ho0) hb); replace HO504 := zA (kE (zP (zFG HO504.out BK510.out (.int .i64 t506) (.slice Ao46 t507.length co46))) (kC ho0) hb); replace HO509 := zA (kE (zP (zFG HO509.out BK510.out (.int .i64 t506) (.slice Ao46 t507.length co46))) (kC ho0) hb); replace BK496 := zA (blk_below (g := gb496) (o := .cells #[.int .i64 a0_0, .slice A0_1 l0_1.length c0_1] 24 (0, 0)) (zBG BK496.out NB496_510.out NB496_510.out) hb); replace BK510 := zA (blk_below (g := gb510) (o := .cells #[.int .i64 t506, .slice Ao46 t507.length co46] 29 (0, 0)) (zRP BK510.out) hb); replace HB := zA (kQ (zV HB.out GE496.out GE510.out) hb); (try clear hb); (try clear ho0); obtain ⟨Ao48, co48, eo48⟩ := kM HO513.out; subst eo48; obtain ⟨Ao49, co49, eo49⟩ := kM HO504.out; subst eo49) | (refine zO (some 38) Tryd.func19 #[.slice Ao48 t511.length co48, .slice Ao49 t502.length co49] ?_; (with_reducible refine (laws_eqInt64S_BFnExactCountByHeight.calls k _ _ t511 _ _ t502 true _ ?side1 ?side2 ?side3 ?side4 A12.out).mono ?_); (case side1 => exact zS (kB HO513.out).2.2); (case side2 => exact (kB HO513.out).2.1); (case side3 => exact zS (kB HO504.out).2.2); (case side4 => exact (kB HO504.out).2.1); rintro e w50 ⟨rfl, hb⟩; refine ⟨_, rfl, ?_⟩; replace HO501 := zA (kL (zP HO501.out) hb); replace HO504 := zA (kL (zP HO504.out) hb); replace HO509 := zA (kL (zP HO509.out) hb); replace HO513 := zA (kL (zP HO513.out) hb); replace BK496 := zA (zB1 BK496.out hb); replace BK510 := zA (zB1 BK510.out hb); replace HB := zA (kQ (zV HB.out GE496.out GE510.out) hb); (try clear hb)))
         replace HO501 := zA (zH HO501.out)
         replace HO504 := zA (zH HO504.out)
         replace HO509 := zA (zH HO509.out)
         replace HO513 := zA (zH HO513.out)
         replace BK496 := zA (zK BK496.out)
         replace BK510 := zA (zK BK510.out)
         replace HB := zA (zD HB.out)
         refine start_ (n := 5) (S := fun w' => w'.cell? ⟨gb510, 0, none⟩ = some (.int .i64 t506) ∧ w'.cell? ⟨gb510, 1, none⟩ = some (.slice Ao46 t507.length co46) ∧ w'.cell? ⟨gb496, 0, none⟩ = some (.int .i64 a0_0) ∧ w'.cell? ⟨gb496, 1, none⟩ = some (.slice A0_1 l0_1.length c0_1)) (ds := []) #[false, false, false, false, false] (by kernel_rfl) rfl rfl ⟨(kV BK510.out 0).trans rfl, (kV BK510.out 1).trans rfl, (kV BK496.out 0).trans rfl, (kV BK496.out 1).trans rfl⟩ (fun hHeld => ?_)
         generalize w50.drew = w51 at HO501 HO504 HO509 HO513 BK496 BK510 HB hHeld ⊢
         refine take_ (i := 0) (N := some 45) (v := ?_) (a' := ?_) #[true, false, false, false, false] rfl rfl (by kernel_rfl) (fun _ _ _ h => h) (Or.inl ⟨by rfl, ?_⟩) hHeld ?_ ?_
         rotate_left
         ·rintro w' ⟨s0, s1, s2, s3⟩
          go_simp
          with_reducible rfl
         rotate_left
         ·simp only [Act.put, zL, zM, zN, i64_w, i32_w]
          rfl
         refine take_ (i := 1) (N := some 46) (v := ?_) (a' := ?_) #[true, true, false, false, false] rfl rfl (by kernel_rfl) (fun _ _ _ h => h) (Or.inl ⟨by rfl, ?_⟩) hHeld ?_ ?_
         rotate_left
         ·rintro w' ⟨s0, s1, s2, s3⟩
          go_simp
          with_reducible rfl
         rotate_left
         ·simp only [Act.put, zL, zM, zN, i64_w, i32_w]
          rfl
         refine one_ (i := 2) (N := some 47) #[true, true, true, false, false] rfl rfl (by kernel_rfl) (by decide) (fun K hK => ?_)
         refine goes_ Tryd.func8 (by kernel_rfl) rfl #[.agg #[.int .i64 a0_0, .slice A0_1 l0_1.length c0_1]] (by rfl) rfl rfl zg ?_
         with_reducible refine (laws_toAlphabet.calls k a0_0 _ _ l0_1 t516 t517 _ ?side1 ?side2 A15.out).mono ?_
         (case side1 => exact zS (kO HR0_1.out HB.out))
         (case side2 => exact HC0_1.out)
         rintro e w52 ⟨v518, rfl, ho0, hb⟩
         refine ⟨_, rfl, ?_⟩
         have HO519 := zA (kI (kF (kF (kF (kF ho0 (kH (zP HO501.out))) (kH (zP HO504.out))) (kH (zP HO509.out))) (kH (zP HO513.out))) (kP (zV HB.out GE496.out GE510.out)))
         replace HO501 := zA (kE (zP HO501.out) (kC ho0) hb)
         replace HO504 := zA (kE (zP HO504.out) (kC ho0) hb)
         replace HO509 := zA (kE (zP HO509.out) (kC ho0) hb)
         replace HO513 := zA (kE (zP HO513.out) (kC ho0) hb)
         replace BK496 := zA (zB1 BK496.out hb)
         replace BK510 := zA (zB1 BK510.out hb)
         replace HB := zA (kQ (zV HB.out GE496.out GE510.out) hb)
         (try clear hb)
         (try clear hb2)
         (try clear hk)
         (try clear hi)
         (try clear hgw)
         (try clear ho0)
         obtain ⟨Ao53, co53, eo53⟩ := kM HO519.out
         (first | subst eo53 | (injection eo53 with f1_ f2_ f3_; have f4_ := f1_.symm; have f5_ := f3_.symm; clear f1_ f2_ f3_; subst f4_; subst f5_))
         refine hK.out _ _ ⟨(kV BK510.out 0).trans rfl, (kV BK510.out 1).trans rfl, (kV BK496.out 0).trans rfl, (kV BK496.out 1).trans rfl⟩ (fun hHeld => ?_)
         clear hK K
         refine norm_ (a' := ?_) ?_ ?_
         rotate_left
         ·show Act.put _ (some 47) _ = _
          simp only [Act.put, zL, zM, zN, i64_w, i32_w]
          rfl
         refine one_ (i := 3) (N := some 48) #[true, true, true, true, false] rfl rfl (by kernel_rfl) (by decide) (fun K hK => ?_)
         refine goes_ Tryd.func11 (by kernel_rfl) rfl #[.agg #[.int .i64 t506, .slice Ao46 t507.length co46], .agg #[.int .i64 t516, .slice Ao53 t517.length co53]] (by rfl) rfl rfl zg ?_
         with_reducible refine (laws_eqAlphabet.calls k t506 _ _ t507 t516 _ _ t517 true _ ?side1 ?side2 ?side3 ?side4 A16.out).mono ?_
         (case side1 => exact zS (kB HO509.out).2.2)
         (case side2 => exact (kB HO509.out).2.1)
         (case side3 => exact zS (kB HO519.out).2.2)
         (case side4 => exact (kB HO519.out).2.1)
         rintro e w54 ⟨rfl, hb⟩
         refine ⟨_, rfl, ?_⟩
         replace HO501 := zA (kL (zP HO501.out) hb)
         replace HO504 := zA (kL (zP HO504.out) hb)
         replace HO509 := zA (kL (zP HO509.out) hb)
         replace HO513 := zA (kL (zP HO513.out) hb)
         replace HO519 := zA (kL (zP HO519.out) hb)
         replace BK496 := zA (zB1 BK496.out hb)
         replace BK510 := zA (zB1 BK510.out hb)
         replace HB := zA (kQ (zV HB.out GE496.out GE510.out) hb)
         (try clear hb)
         (try clear hb2)
         (try clear hk)
         (try clear hi)
         (try clear hgw)
         refine hK.out _ _ ⟨(kV BK510.out 0).trans rfl, (kV BK510.out 1).trans rfl, (kV BK496.out 0).trans rfl, (kV BK496.out 1).trans rfl⟩ (fun hHeld => ?_)
         clear hK K
         refine norm_ (a' := ?_) ?_ ?_
         rotate_left
         ·show Act.put _ (some 48) _ = _
          simp only [Act.put, zL, zM, zN, i64_w, i32_w]
          rfl
         refine pure_ (i := 4) (N := some 49) (v := ?_) (a' := ?_) #[true, true, true, true, true] rfl rfl (by kernel_rfl) (fun _ _ _ h => h) (Or.inl ⟨by rfl, ?_⟩) ?_ ?_
         rotate_left
         ·intro w'
          go_simp
          with_reducible rfl
         rotate_left
         ·simp only [Act.put, zL, zM, zN, i64_w, i32_w]
          rfl
         refine done_ (by kernel_rfl) ?_
         obtain ⟨hcz55_0, hcz55_1, hfz55_0, hfz55_1⟩ := zB3 BK510.out
         try go_wp2_with (first | (refine zO (some 52) Tryd.func12 #[.agg #[.int .i64 t506, .slice Ao46 t507.length co46], .int .i64 1] ?_; (with_reducible refine (laws_markAlphabet.calls k t506 (fun k_ => some k_ = (.slice Ao46 t507.length co46 : Value).ownBlock) (.slice Ao46 t507.length co46) t507 1 t521 t522 w _ ?side1 ?side2 A18.out).mono ?_); (case side1 => exact zV HB.out GE496.out GE510.out); (case side2 => exact jK rfl HO509.out); rintro e w56 ⟨rfl, hy0, hb, hkp⟩; refine ⟨_, rfl, ?_⟩; replace BK496 := zA (blk_kept (zR BK496.out) hkp (fun hs_ => (fun e_ => (Kd.R_ne HO509.out BK496.out (by decide)) e_) hs_)); replace HO501 := zA (kA (ok' := fun k_ => some k_ ≠ (.slice Ao49 t502.length co49 : Value).ownBlock ∧ some k_ ≠ (.slice Ao46 t507.length co46 : Value).ownBlock ∧ some k_ ≠ (.slice Ao48 t511.length co48 : Value).ownBlock ∧ some k_ ≠ (.slice Ao53 t517.length co53 : Value).ownBlock) (Kd.R_keptB (HO501.out) hkp (fun k_ hk_ hs_ => (hk_.1.1.2) hs_)) (fun k_ hk_ => ⟨hk_.1.1.1.1.2, hk_.1.1.1.2, hk_.1.1.2, hk_.1.2⟩)); replace HO504 := zA (kA (ok' := fun k_ => some k_ ≠ (.slice Ao39 t499.length co39 : Value).ownBlock ∧ some k_ ≠ (.slice Ao46 t507.length co46 : Value).ownBlock ∧ some k_ ≠ (.slice Ao48 t511.length co48 : Value).ownBlock ∧ some k_ ≠ (.slice Ao53 t517.length co53 : Value).ownBlock) (Kd.R_keptB (HO504.out) hkp (fun k_ hk_ hs_ => (hk_.1.1.2) hs_)) (fun k_ hk_ => ⟨hk_.1.1.1.1.2, hk_.1.1.1.2, hk_.1.1.2, hk_.1.2⟩)); replace BK510 := zA (blk_kept (zR BK510.out) hkp (fun hs_ => (fun e_ => (Kd.R_ne HO509.out BK510.out (by decide)) e_) hs_)); replace HO509 := zA (Kd.R_reok rfl hy0 (fun k_ e_ => HO509.out.1 k_ e_)); replace HO513 := zA (kA (ok' := fun k_ => some k_ ≠ (.slice Ao39 t499.length co39 : Value).ownBlock ∧ some k_ ≠ (.slice Ao49 t502.length co49 : Value).ownBlock ∧ some k_ ≠ (.slice Ao46 t507.length co46 : Value).ownBlock ∧ some k_ ≠ (.slice Ao53 t517.length co53 : Value).ownBlock) (Kd.R_keptB (HO513.out) hkp (fun k_ hk_ hs_ => (hk_.1.2) hs_)) (fun k_ hk_ => ⟨hk_.1.1.1.1.2, hk_.1.1.1.2, hk_.1.1.2, hk_.1.2⟩)); replace HO519 := zA (kA (ok' := fun k_ => some k_ ≠ (.slice Ao39 t499.length co39 : Value).ownBlock ∧ some k_ ≠ (.slice Ao49 t502.length co49 : Value).ownBlock ∧ some k_ ≠ (.slice Ao46 t507.length co46 : Value).ownBlock ∧ some k_ ≠ (.slice Ao48 t511.length co48 : Value).ownBlock) (Kd.R_keptB (HO519.out) hkp (fun k_ hk_ hs_ => (hk_.1.2) hs_)) (fun k_ hk_ => ⟨hk_.1.1.1.1.2, hk_.1.1.1.2, hk_.1.1.2, hk_.1.2⟩)); replace HB := zA (hb); (try clear hb); (try clear hkp); (try clear hy0)) | (go_at_call 19; (with_reducible refine (laws_eqInt64S_BFnExactCountByHeight.calls k _ _ t511 _ _ t502 true _ ?side1 ?side2 ?side3 ?side4 A20.out).mono ?_); (case side1 => exact zS (kB HO513.out).2.2); (case side2 => exact (kB HO513.out).2.1); (case side3 => exact zS (kB HO504.out).2.2); (case side4 => exact (kB HO504.out).2.1); rintro e w57 ⟨rfl, hb⟩; replace HO501 := zA (kL (zP HO501.out) hb); replace HO504 := zA (kL (zP HO504.out) hb); replace HO509 := zA (kL (zP HO509.out) hb); replace HO513 := zA (kL (zP HO513.out) hb); replace HO519 := zA (kL (zP HO519.out) hb); replace BK496 := zA (zB1 BK496.out hb); replace BK510 := zA (zB1 BK510.out hb); replace HB := zA (kQ (zV HB.out GE496.out GE510.out) hb); (try clear hb); (try clear hb2); (try clear hk); (try clear hi); (try clear hgw)) | (refine zO (some 68) Tryd.func20 #[.slice Ao48 t511.length co48, .int .i64 1] ?_; (with_reducible refine (laws_markInt64S.calls k (fun k_ => some k_ = (.slice Ao48 t511.length co48 : Value).ownBlock) (.slice Ao48 t511.length co48) t511 1 t524 t525 w _ ?side1 ?side2 A22.out).mono ?_); (case side1 => exact zV HB.out GE496.out GE510.out); (case side2 => exact jK rfl HO513.out); rintro e w58 ⟨rfl, hy0, hb, hkp⟩; refine ⟨_, rfl, ?_⟩; replace BK496 := zA (blk_kept (zR BK496.out) hkp (fun hs_ => (fun e_ => (Kd.R_ne HO513.out BK496.out (by decide)) e_) hs_)); replace HO501 := zA (kA (ok' := fun k_ => some k_ ≠ (.slice Ao49 t502.length co49 : Value).ownBlock ∧ some k_ ≠ (.slice Ao46 t507.length co46 : Value).ownBlock ∧ some k_ ≠ (.slice Ao48 t511.length co48 : Value).ownBlock ∧ some k_ ≠ (.slice Ao53 t517.length co53 : Value).ownBlock) (Kd.R_keptB (HO501.out) hkp (fun k_ hk_ hs_ => (hk_.2.2.1) hs_)) (fun k_ hk_ => ⟨hk_.1.1, hk_.1.2.1, hk_.1.2.2.1, hk_.1.2.2.2⟩)); replace HO504 := zA (kA (ok' := fun k_ => some k_ ≠ (.slice Ao39 t499.length co39 : Value).ownBlock ∧ some k_ ≠ (.slice Ao46 t507.length co46 : Value).ownBlock ∧ some k_ ≠ (.slice Ao48 t511.length co48 : Value).ownBlock ∧ some k_ ≠ (.slice Ao53 t517.length co53 : Value).ownBlock) (Kd.R_keptB (HO504.out) hkp (fun k_ hk_ hs_ => (hk_.2.2.1) hs_)) (fun k_ hk_ => ⟨hk_.1.1, hk_.1.2.1, hk_.1.2.2.1, hk_.1.2.2.2⟩)); replace HO509 := zA (kA (ok' := fun k_ => some k_ ≠ (.slice Ao39 t499.length co39 : Value).ownBlock ∧ some k_ ≠ (.slice Ao49 t502.length co49 : Value).ownBlock ∧ some k_ ≠ (.slice Ao48 t511.length co48 : Value).ownBlock ∧ some k_ ≠ (.slice Ao53 t517.length co53 : Value).ownBlock) (Kd.R_keptB (HO509.out) hkp (fun k_ hk_ hs_ => (hk_.1.2) hs_)) (fun k_ hk_ => ⟨hk_.1.1.1.1.2, hk_.1.1.1.2, hk_.1.1.2, hk_.1.2⟩)); replace BK510 := zA (blk_kept (zR BK510.out) hkp (fun hs_ => (fun e_ => (Kd.R_ne HO513.out BK510.out (by decide)) e_) hs_)); replace HO513 := zA (Kd.R_reok rfl hy0 (fun k_ e_ => HO513.out.1 k_ e_)); replace HO519 := zA (kA (ok' := fun k_ => some k_ ≠ (.slice Ao39 t499.length co39 : Value).ownBlock ∧ some k_ ≠ (.slice Ao49 t502.length co49 : Value).ownBlock ∧ some k_ ≠ (.slice Ao46 t507.length co46 : Value).ownBlock ∧ some k_ ≠ (.slice Ao48 t511.length co48 : Value).ownBlock) (Kd.R_keptB (HO519.out) hkp (fun k_ hk_ hs_ => (hk_.2.2.2) hs_)) (fun k_ hk_ => ⟨hk_.1.1, hk_.1.2.1, hk_.1.2.2.1, hk_.1.2.2.2⟩)); replace HB := zA (hb); (try clear hb); (try clear hkp); (try clear hy0)) | ((with_reducible refine kR (f := 21) rfl ?_); refine goesL_ (some 71) rfl rfl Tryd.func21 (by kernel_rfl) rfl #[.slice Ao48 t525.length co48, .int .i64 1] rfl (by (try simp only [List.map_toArray, List.map_cons, List.map_nil]); first | done | (rw [show t525.length = t511.length from (kB HO513.out).1.symm] <;> rfl) | rfl | (simp only [List.length_drop, List.length_take]; rfl)) ?_; (with_reducible refine (laws_heldInt64S.calls k _ _ t525 1 t526 _ ?side1 ?side2 A23.out).mono ?_); (case side1 => exact zS (kB HO513.out).2.2); (case side2 => rw [show t525.length = t511.length from (kB HO513.out).1.symm]; exact (kB HO513.out).2.1); rintro e w' ⟨rfl, ⟨nd, rfl⟩⟩; refine ⟨_, rfl, ?_⟩; obtain ⟨hcz59_0, hcz59_1, hfz59_0, hfz59_1⟩ := zB3 BK496.out) | (refine zO (some 79) Tryd.func8 #[.agg #[.int .i64 a0_0, .slice A0_1 l0_1.length c0_1]] ?_; (with_reducible refine (laws_toAlphabet.calls k a0_0 _ _ l0_1 t527 t528 _ ?side1 ?side2 A26.out).mono ?_); (case side1 => exact zS (kO HR0_1.out (zV HB.out GE496.out GE510.out))); (case side2 => exact HC0_1.out); rintro e w60 ⟨v529, rfl, ho0, hb⟩; refine ⟨_, rfl, ?_⟩; have HO530 := zA (kI (kF (kF (kF (kF (kF ho0 (kH (zP HO501.out))) (kH (zP HO504.out))) (kH (zP HO509.out))) (kH (zP HO513.out))) (kH (zP HO519.out))) (kP (zV HB.out GE496.out GE510.out))); replace HO501 := zA (kE (zP HO501.out) (kC ho0) hb); replace HO504 := zA (kE (zP HO504.out) (kC ho0) hb); replace HO509 := zA (kE (zP HO509.out) (kC ho0) hb); replace HO513 := zA (kE (zP HO513.out) (kC ho0) hb); replace HO519 := zA (kE (zP HO519.out) (kC ho0) hb); replace BK496 := zA (zB1 BK496.out hb); replace BK510 := zA (zB1 BK510.out hb); replace HB := zA (kQ (zV HB.out GE496.out GE510.out) hb); (try clear hb); (try clear ho0); obtain ⟨Ao61, co61, eo61⟩ := kM HO530.out; subst eo61) | (refine zO (some 81) Tryd.func18 #[.agg #[.int .i64 t527, .slice Ao61 t528.length co61], .int .i64 a1] ?_; (with_reducible refine (impl_CountByHeight.calls k t527 _ _ t528 a1 t531 t534 _ ?side1 ?side2 ?side3 A27.out).mono ?_); (case side1 => exact zS (kB HO530.out).2.2); (case side2 => exact (kB HO530.out).2.1); (case side3 => exact TabW.below HT.out (zV HB.out GE496.out GE510.out)); rintro e w62 ⟨v532, rfl, ho0, hb⟩; refine ⟨_, rfl, ?_⟩; have HO533 := zA (kI (kF (kF (kF (kF (kF (kF ho0 (kH (zP HO501.out))) (kH (zP HO504.out))) (kH (zP HO509.out))) (kH (zP HO513.out))) (kH (zP HO519.out))) (kH (zP HO530.out))) (kP (zV HB.out GE496.out GE510.out))); replace HO501 := zA (kE (zP HO501.out) (kC ho0) hb); replace HO504 := zA (kE (zP HO504.out) (kC ho0) hb); replace HO509 := zA (kE (zP HO509.out) (kC ho0) hb); replace HO513 := zA (kE (zP HO513.out) (kC ho0) hb); replace HO519 := zA (kE (zP HO519.out) (kC ho0) hb); replace HO530 := zA (kE (zP HO530.out) (kC ho0) hb); replace BK496 := zA (zB1 BK496.out hb); replace BK510 := zA (zB1 BK510.out hb); replace HB := zA (kQ (zV HB.out GE496.out GE510.out) hb); (try clear hb); (try clear ho0); obtain ⟨Ao63, co63, eo63⟩ := kM HO533.out; subst eo63) | (refine zO (some 86) Tryd.func19 #[.slice Ao63 t531.length co63, .slice Ao49 t502.length co49] ?_; (with_reducible refine (laws_eqInt64S_BFnExactCountByHeight.calls k _ _ t531 _ _ t502 true _ ?side1 ?side2 ?side3 ?side4 A28.out).mono ?_); (case side1 => exact zS (kB HO533.out).2.2); (case side2 => exact (kB HO533.out).2.1); (case side3 => exact zS (kB HO504.out).2.2); (case side4 => exact (kB HO504.out).2.1); rintro e w64 ⟨rfl, hb⟩; refine ⟨_, rfl, ?_⟩; replace HO501 := zA (kL (zP HO501.out) hb); replace HO504 := zA (kL (zP HO504.out) hb); replace HO509 := zA (kL (zP HO509.out) hb); replace HO513 := zA (kL (zP HO513.out) hb); replace HO519 := zA (kL (zP HO519.out) hb); replace HO530 := zA (kL (zP HO530.out) hb); replace HO533 := zA (kL (zP HO533.out) hb); replace BK496 := zA (zB1 BK496.out hb); replace BK510 := zA (zB1 BK510.out hb); replace HB := zA (kQ (zV HB.out GE496.out GE510.out) hb); (try clear hb)) | ((with_reducible refine kR (f := 21) rfl ?_); refine goesL_ (some 95) rfl rfl Tryd.func21 (by kernel_rfl) rfl #[.slice Ao48 t525.length co48, .int .i64 1] rfl (by (try simp only [List.map_toArray, List.map_cons, List.map_nil]); first | done | (rw [show t525.length = t511.length from (kB HO513.out).1.symm] <;> rfl) | rfl | (simp only [List.length_drop, List.length_take]; rfl)) ?_; (with_reducible refine (laws_heldInt64S.calls k _ _ t525 1 t536 _ ?side1 ?side2 A31.out).mono ?_); (case side1 => exact zS (kB HO513.out).2.2); (case side2 => rw [show t525.length = t511.length from (kB HO513.out).1.symm]; exact (kB HO513.out).2.1); rintro e w' ⟨rfl, ⟨nd, rfl⟩⟩; refine ⟨_, rfl, ?_⟩))
         go_ret
         exact ⟨zr, zV HB.out GE496.out GE510.out⟩
        rw [if_neg c33] at H
        exact absurd H (by simp)
       rw [if_neg c30] at H
       exact absurd H (by simp)
      replace c29 := Bool.eq_false_iff.mpr c29
      subst c29
      rw [if_neg (show ¬ (false = true) by decide)] at H
      exact absurd H (by simp)
     rw [if_neg c25] at H
     exact absurd H (by simp)
    replace c21 := Bool.eq_false_iff.mpr c21
    subst c21
    rw [if_neg (show ¬ (false = true) by decide)] at H
    exact absurd H (by simp)
   replace c17 := Bool.eq_false_iff.mpr c17
   subst c17
   rw [if_neg (show ¬ (false = true) by decide)] at H
   exact absurd H (by simp)
  rw [if_neg c14] at H
  exact absurd H (by simp)
 replace c13 := Bool.eq_false_iff.mpr c13
 subst c13
 rw [if_neg (show ¬ (false = true) by decide)] at H
 exact absurd H (by simp)

end Go.Proofs.YtemdfjdmokbcoaaDoor.PAll
