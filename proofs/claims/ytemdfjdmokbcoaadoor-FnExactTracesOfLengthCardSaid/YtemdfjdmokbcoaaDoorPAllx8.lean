-- Printed by a program of the session (wip/tools/pgen.py) out of the translation. Not trusted: Lean checks it.
import Derived.Test.YtemdfjdmokbcoaaDoorPAllx0
import Derived.Test.YtemdfjdmokbcoaaDoorPAllx1
import Derived.Test.YtemdfjdmokbcoaaDoorPAllx2
import Derived.Test.YtemdfjdmokbcoaaDoorPAllx7
namespace Go.Proofs.YtemdfjdmokbcoaaDoor.PAll
open Go.RowKit Go.Proofs.YtemdfjdmokbcoaaDoor.T Go.Proofs.YtemdfjdmokbcoaaDoorW.PrintWords Go.Proofs.YtemdfjdmokbcoaaDoorW.PrintLast Go.Proofs.YtemdfjdmokbcoaaDoorW.PrintMore
attribute [local go_sem] max2_int min2_int max_two min_two max_three min_three max_four min_four   -- for this text's walks alone
set_option linter.unusedVariables false
set_option linter.unusedSimpArgs false

/-! ### laws_FnExactTracesOfLength: function 3 -/
def laws_eqInt64S_BFnExactTracesOfLength.f (k : Nat) (l0 : List Int) (l1 : List Int) : Option (Bool) := laws_eqInt64S.f k l0 l1
theorem laws_eqInt64S_BFnExactTracesOfLength.calls (k : Nat) (A0 : Option Addr) (c0 : Nat) (l0 : List Int) (A1 : Option Addr) (c1 : Nat) (l1 : List Int) (r : Bool) (w : World) (hr0 : Kd.C (Kd.int .i64) w A0 l0.length l0) (hc0 : l0.length ≤ c0) (hr1 : Kd.C (Kd.int .i64) w A1 l1.length l1) (hc1 : l1.length ≤ c1) (h : laws_eqInt64S_BFnExactTracesOfLength.f k l0 l1 = some r) :
 Calls Tryd.prog 19 #[.slice A0 l0.length c0, .slice A1 l1.length c1] w fun e w' => e = .returned (.bool r) ∧ Below w.heap.size w w' := by
 refine (laws_eqInt64S.calls k A0 c0 l0 A1 c1 l1 r w hr0 hc0 hr1 hc1 h).mono ?_
 rintro e w' ⟨h1, h2⟩
 exact ⟨h1, Drawn0.below h2⟩
def laws_eqInt64SS_BFnExactTracesOfLength.f (k : Nat) (l0 : List (List Int)) (l1 : List (List Int)) : Option (Bool) := laws_eqInt64SS.f k l0 l1
theorem laws_eqInt64SS_BFnExactTracesOfLength.calls (k : Nat) (A0 : Option Addr) (c0 : Nat) (l0 : List (List Int)) (A1 : Option Addr) (c1 : Nat) (l1 : List (List Int)) (r : Bool) (w : World) (hr0 : Kd.C (Kd.slice 2 (Kd.int .i64)) w A0 l0.length l0) (hc0 : l0.length ≤ c0) (hr1 : Kd.C (Kd.slice 2 (Kd.int .i64)) w A1 l1.length l1) (hc1 : l1.length ≤ c1) (h : laws_eqInt64SS_BFnExactTracesOfLength.f k l0 l1 = some r) :
 Calls Tryd.prog 10 #[.slice A0 l0.length c0, .slice A1 l1.length c1] w fun e w' => e = .returned (.bool r) ∧ Below w.heap.size w w' := by
 refine (laws_eqInt64SS.calls k A0 c0 l0 A1 c1 l1 r w hr0 hc0 hr1 hc1 h).mono ?_
 rintro e w' ⟨h1, h2⟩
 exact ⟨h1, Drawn0.below h2⟩
def laws_FnExactTracesOfLength.f (k : Nat) (a0_0 : Int) (l0_1 : List Int) (a1 : Int) : Option (Bool) := (laws_szAlphabet.f a0_0 l0_1 1048576).bind fun t424 => (if t424 < 0 then (some true) else ((laws_toAlphabet.f k a0_0 l0_1).bind fun bt425 => ((spec_TracesOfLength.f k bt425.1 bt425.2 a1).bind fun bt429 => ((laws_toAlphabet.f k a0_0 l0_1).bind fun bt433 => ((impl_TracesOfLength.f k bt433.1 bt433.2 a1).bind fun bt438 => ((laws_eqInt64SS_BFnExactTracesOfLength.f k bt438.1 bt429.1).bind fun t442 => (if t442 = true then (if bt438.2 = bt429.2 then ((laws_toAlphabet.f k a0_0 l0_1).bind fun bt443 => ((laws_eqAlphabet.f k bt433.1 bt433.2 bt443.1 bt443.2).bind fun t447 => (if t447 = true then ((laws_markAlphabet.f k bt433.1 bt433.2 1).bind fun bt448 => (if bt448.1 < 0 then (none) else ((laws_eqInt64SS_BFnExactTracesOfLength.f k bt438.1 bt429.1).bind fun t450 => (if t450 = true then ((laws_markInt64SS.f k bt438.1 1).bind fun bt451 => ((laws_heldInt64SS.f k bt451.2 1).bind fun t453 => (if t453 < 0 then (none) else (if t453 = bt451.1 then ((laws_toAlphabet.f k a0_0 l0_1).bind fun bt454 => ((impl_TracesOfLength.f k bt454.1 bt454.2 a1).bind fun bt458 => ((laws_eqInt64SS_BFnExactTracesOfLength.f k bt458.1 bt429.1).bind fun t462 => (if t462 = true then (if bt458.2 = bt429.2 then ((laws_heldInt64SS.f k bt451.2 1).bind fun t463 => (if t463 < 0 then (none) else (if t463 = bt451.1 then (some true) else (none)))) else (none)) else (none))))) else (none))))) else (none))))) else (none)))) else (none)) else (none))))))))

set_option maxHeartbeats 8000000 in
set_option maxRecDepth 100000 in
theorem laws_FnExactTracesOfLength.calls (k : Nat) (a0_0 : Int) (A0_1 : Option Addr) (c0_1 : Nat) (l0_1 : List Int) (a1 : Int) (r : Bool) (w : World) (hr0_1 : Kd.C (Kd.int .i64) w A0_1 l0_1.length l0_1) (hc0_1 : l0_1.length ≤ c0_1) (hT : TabW w) (h : laws_FnExactTracesOfLength.f k a0_0 l0_1 a1 = some r) :
  Calls Tryd.prog 3 #[.agg #[.int .i64 a0_0, .slice A0_1 l0_1.length c0_1], .int .i64 a1] w fun e w' => e = .returned (.bool r) ∧ Below w.heap.size w w' := by
 have hu24 := Tryd.underlying24
 have hu29 := Tryd.underlying29
 have HT := zA hT
 clear hT
 have HR0_1 := zA hr0_1
 have HC0_1 := zA hc0_1
 clear hr0_1 hc0_1
 have HB := zA (kW w.heap.size w)
 have H := h
 unfold laws_FnExactTracesOfLength.f at H
 clear h
 obtain ⟨t424, A3, H⟩ := zb H
 try dsimp only at H
 by_cases c4 : t424 < 0
 ·rw [if_pos c4] at H
  have c4b0 : decide (t424 < 0) = true := decide_eq_true c4
  clear c4
  obtain rfl := Option.some.inj H
  go_enter Tryd.func3, Tryd.ntmps3
  go_wp2_with (first | (refine zBE 2 #[.int .i64 a0_0, .slice A0_1 l0_1.length c0_1] 24 ?_; intro gb423 hg w5 hbox hb; have BK423 := zA (hbox); have GW423 := zA (zBH hg HB.out); have GE423 := zA (zBH hg HB.out); replace HB := zA (kQ (zQ HB.out) hb); clear hb hbox hg; obtain ⟨hcz6_0, hcz6_1, hfz6_0, hfz6_1⟩ := zB3 BK423.out) | (refine zO (some 18) Tryd.func6 #[.agg #[.int .i64 a0_0, .slice A0_1 l0_1.length c0_1], .int .i64 1048576] ?_; (with_reducible refine (laws_szAlphabet.calls a0_0 _ _ l0_1 1048576 t424 _ ?side1 ?side2 A3.out).mono ?_); (case side1 => exact zS (kO HR0_1.out HB.out)); (case side2 => exact HC0_1.out); rintro e w7 ⟨rfl, hb⟩; refine ⟨_, rfl, ?_⟩; replace BK423 := zA (zB1 BK423.out hb); replace HB := zA (kQ (zT HB.out GE423.out) hb); (try clear hb)))
  go_ret
  exact ⟨zr, zT HB.out GE423.out⟩
 rw [if_neg c4] at H
 have c4b0 : decide (t424 < 0) = false := decide_eq_false c4
 clear c4
 obtain ⟨⟨t425, t426⟩, A8, H⟩ := zb H
 try dsimp only at H
 obtain ⟨⟨t429, t432⟩, A9, H⟩ := zb H
 try dsimp only at H
 obtain ⟨⟨t433, t434⟩, A10, H⟩ := zb H
 try dsimp only at H
 obtain ⟨⟨t438, t441⟩, A11, H⟩ := zb H
 try dsimp only at H
 obtain ⟨t442, A12, H⟩ := zb H
 try dsimp only at H
 by_cases c13 : t442 = true
 ·subst c13
  rw [if_pos rfl] at H
  by_cases c14 : t441 = t432
  ·rw [if_pos c14] at H
   obtain ⟨c14b0, c14b1⟩ := zT1 c14
   clear c14
   obtain ⟨⟨t443, t444⟩, A15, H⟩ := zb H
   try dsimp only at H
   obtain ⟨t447, A16, H⟩ := zb H
   try dsimp only at H
   by_cases c17 : t447 = true
   ·subst c17
    rw [if_pos rfl] at H
    obtain ⟨⟨t448, t449⟩, A18, H⟩ := zb H
    try dsimp only at H
    by_cases c19 : t448 < 0
    ·rw [if_pos c19] at H
     exact absurd H (by simp)
    rw [if_neg c19] at H
    have c19b0 : decide (t448 < 0) = false := decide_eq_false c19
    clear c19
    obtain ⟨t450, A20, H⟩ := zb H
    try dsimp only at H
    by_cases c21 : t450 = true
    ·subst c21
     rw [if_pos rfl] at H
     obtain ⟨⟨t451, t452⟩, A22, H⟩ := zb H
     try dsimp only at H
     obtain ⟨t453, A23, H⟩ := zb H
     try dsimp only at H
     by_cases c24 : t453 < 0
     ·rw [if_pos c24] at H
      exact absurd H (by simp)
     rw [if_neg c24] at H
     have c24b0 : decide (t453 < 0) = false := decide_eq_false c24
     clear c24
     by_cases c25 : t453 = t451
     ·rw [if_pos c25] at H
      obtain ⟨c25b0, c25b1⟩ := zT1 c25
      clear c25
      obtain ⟨⟨t454, t455⟩, A26, H⟩ := zb H
      try dsimp only at H
      obtain ⟨⟨t458, t461⟩, A27, H⟩ := zb H
      try dsimp only at H
      obtain ⟨t462, A28, H⟩ := zb H
      try dsimp only at H
      by_cases c29 : t462 = true
      ·subst c29
       rw [if_pos rfl] at H
       by_cases c30 : t461 = t432
       ·rw [if_pos c30] at H
        obtain ⟨c30b0, c30b1⟩ := zT1 c30
        clear c30
        obtain ⟨t463, A31, H⟩ := zb H
        try dsimp only at H
        by_cases c32 : t463 < 0
        ·rw [if_pos c32] at H
         exact absurd H (by simp)
        rw [if_neg c32] at H
        have c32b0 : decide (t463 < 0) = false := decide_eq_false c32
        clear c32
        by_cases c33 : t463 = t451
        ·rw [if_pos c33] at H
         obtain ⟨c33b0, c33b1⟩ := zT1 c33
         clear c33
         obtain rfl := Option.some.inj H
         go_enter Tryd.func3, Tryd.ntmps3
         try go_wp2_with (first | (refine zBE 2 #[.int .i64 a0_0, .slice A0_1 l0_1.length c0_1] 24 ?_; intro gb423 hg w34 hbox hb; have BK423 := zA (hbox); have GW423 := zA (zBH hg HB.out); have GE423 := zA (zBH hg HB.out); replace HB := zA (kQ (zQ HB.out) hb); clear hb hbox hg; obtain ⟨hcz35_0, hcz35_1, hfz35_0, hfz35_1⟩ := zB3 BK423.out) | (refine zO (some 18) Tryd.func6 #[.agg #[.int .i64 a0_0, .slice A0_1 l0_1.length c0_1], .int .i64 1048576] ?_; (with_reducible refine (laws_szAlphabet.calls a0_0 _ _ l0_1 1048576 t424 _ ?side1 ?side2 A3.out).mono ?_); (case side1 => exact zS (kO HR0_1.out HB.out)); (case side2 => exact HC0_1.out); rintro e w36 ⟨rfl, hb⟩; refine ⟨_, rfl, ?_⟩; replace BK423 := zA (zB1 BK423.out hb); replace HB := zA (kQ (zT HB.out GE423.out) hb); (try clear hb); obtain ⟨hcz37_0, hcz37_1, hfz37_0, hfz37_1⟩ := zB3 BK423.out) | (refine zO (some 23) Tryd.func8 #[.agg #[.int .i64 a0_0, .slice A0_1 l0_1.length c0_1]] ?_; (with_reducible refine (laws_toAlphabet.calls k a0_0 _ _ l0_1 t425 t426 _ ?side1 ?side2 A8.out).mono ?_); (case side1 => exact zS (kO HR0_1.out HB.out)); (case side2 => exact HC0_1.out); rintro e w38 ⟨v427, rfl, ho0, hb⟩; refine ⟨_, rfl, ?_⟩; have HO428 := zA (kI ho0 (kP (zT HB.out GE423.out))); replace BK423 := zA (zB1 BK423.out hb); replace HB := zA (kQ (zT HB.out GE423.out) hb); (try clear hb); (try clear ho0); obtain ⟨Ao39, co39, eo39⟩ := kM HO428.out; subst eo39) | (refine zO (some 25) Tryd.func7 #[.agg #[.int .i64 t425, .slice Ao39 t426.length co39], .int .i64 a1] ?_; (with_reducible refine (spec_TracesOfLength.calls k t425 _ _ t426 a1 t429 t432 _ ?side1 ?side2 ?side3 A9.out).mono ?_); (case side1 => exact zS (kB HO428.out).2.2); (case side2 => exact (kB HO428.out).2.1); (case side3 => exact TabW.below HT.out (zT HB.out GE423.out)); rintro e w40 ⟨v430, rfl, ho0, hb⟩; refine ⟨_, rfl, ?_⟩; have HO431 := zA (Kd.S_lower (Kd.S_new' ho0 (kH (zP HO428.out))) (kP (zT HB.out GE423.out))); replace HO428 := zA (kL (zP HO428.out) hb); replace BK423 := zA (zB1 BK423.out hb); replace HB := zA (kQ (zT HB.out GE423.out) hb); (try clear hb); (try clear ho0); obtain ⟨hcz41_0, hcz41_1, hfz41_0, hfz41_1⟩ := zB3 BK423.out) | (refine zO (some 29) Tryd.func8 #[.agg #[.int .i64 a0_0, .slice A0_1 l0_1.length c0_1]] ?_; (with_reducible refine (laws_toAlphabet.calls k a0_0 _ _ l0_1 t433 t434 _ ?side1 ?side2 A10.out).mono ?_); (case side1 => exact zS (kO HR0_1.out HB.out)); (case side2 => exact HC0_1.out); rintro e w42 ⟨v435, rfl, ho0, hb⟩; refine ⟨_, rfl, ?_⟩; replace HO431 := zA (Kd.S_elder' (by (with_reducible repeat (first | apply Kd.S_alloc | apply Kd.S_drewN | apply Kd.S_drew)); exact HO431.out) (kC ho0) hb); have HO436 := zA (kI (kF ho0 (kH (zP HO428.out))) (kP (zT HB.out GE423.out))); replace HO428 := zA (kE (zP HO428.out) (kC ho0) hb); replace BK423 := zA (zB1 BK423.out hb); replace HB := zA (kQ (zT HB.out GE423.out) hb); (try clear hb); (try clear ho0)) | (refine zBE 8 #[.int .i64 0, .slice none 0 0] 29 ?_; intro gb437 hg w43 hbox hb; replace HO428 := zA (kL (zP HO428.out) hb); replace HO431 := zA (Kd.S_below (by (with_reducible repeat (first | apply Kd.S_alloc | apply Kd.S_drewN | apply Kd.S_drew)); exact HO431.out) hb); replace HO436 := zA (kL (zP HO436.out) hb); have BK437 := zA (hbox); have GW437 := zA (zB6 hg (kP (zT HB.out GE423.out)) : w.heap.size ≤ gb437); have GE437 := zA (zB6 hg (kP (zT HB.out GE423.out)) : w.heap.size ≤ gb437); replace HB := zA (kQ (zT HB.out GE423.out) hb); have NB423_437 := zA (zB4 hg BK423.out : gb423 ≠ gb437); have NB437_423 := zA (zB5 hg BK423.out : gb437 ≠ gb423); replace BK423 := zA (zB1 BK423.out hb); clear hb hbox hg; have hnb44 := NB437_423.out; have hnc44 := NB423_437.out; obtain ⟨hcz45_0, hcz45_1, hfz45_0, hfz45_1⟩ := zB3 BK437.out; obtain ⟨Ao46, co46, eo46⟩ := kM HO436.out; subst eo46) | (refine zO (some 33) Tryd.func9 #[.agg #[.int .i64 t433, .slice Ao46 t434.length co46], .int .i64 a1] ?_; (with_reducible refine (impl_TracesOfLength.calls k t433 _ _ t434 a1 t438 t441 _ ?side1 ?side2 ?side3 A11.out).mono ?_); (case side1 => refine (kB (e := 2) (base := w.heap.size) (ok := fun k_ => (True ∧ some k_ ≠ (.slice Ao39 t426.length co39 : Value).ownBlock)) (n := t434.length) (c := co46) ?_).2.2; exact (zP (zFG HO436.out BK437.out (.int .i64 t433) (.slice Ao46 t434.length co46)))); (case side2 => exact (kB HO436.out).2.1); (case side3 => exact TabW.below HT.out (zV HB.out GE423.out GE437.out)); rintro e w47 ⟨v439, rfl, ho0, hb⟩; refine ⟨_, rfl, ?_⟩; obtain ⟨nbZ, hz_⟩ := ZPair.mk (X := fun k_ => some k_ = (.slice Ao46 t434.length co46 : Value).ownBlock ∨ k_ = gb423 ∨ k_ = gb437) (Kd.S_types (t := 29) (cells := #[.int .i64 t433, .slice Ao46 t434.length co46]) (Kd.S_types (t := 24) (cells := #[.int .i64 a0_0, .slice A0_1 l0_1.length c0_1]) (by (with_reducible repeat (first | apply Kd.S_alloc | apply Kd.S_drewN | apply Kd.S_drew)); exact (Kd.S_mono (Kd.S_far (p := ⟨gb437, 1, none⟩) (Kd.S_far (p := ⟨gb437, 0, none⟩) (Kd.S_types HO431.out BK437.out (by decide)) (fun _ hk => hk.2) (.int .i64 t433)) (fun _ hk => hk.2) (.slice Ao46 t434.length co46)) (fun _ h_ => h_.1))) (zBG BK423.out NB423_437.out NB423_437.out) (by decide)) (zRP BK437.out) (by decide)) (fun k_ hk_ hx_ => by rcases hx_ with hx_ | hx_ | hx_ <;> repeat (first | exact hk_.2 hx_ | replace hk_ := hk_.1)) hb ho0 (fun k_ hx_ => Or.elim hx_ (fun e_ => kH (zP (zFG HO436.out BK437.out (.int .i64 t433) (.slice Ao46 t434.length co46))) k_ e_.symm) (fun h_ => Or.elim h_ (fun e_ => by rw [e_]; exact blk_lt (o := .cells #[.int .i64 a0_0, .slice A0_1 l0_1.length c0_1] 24 (0, 0)) (zBG BK423.out NB423_437.out NB423_437.out)) (fun h_ => (fun e_ => by rw [e_]; exact blk_lt (o := .cells #[.int .i64 t433, .slice Ao46 t434.length co46] 29 (0, 0)) (zRP BK437.out)) h_))) (kP (zV HB.out GE423.out GE437.out)); have HZ := zA hz_; clear hz_; have HO440 := zA (Kd.S_lower (Kd.S_new' (Kd.S_new' (Kd.S_new' ho0 (kH (zP (zFG HO428.out BK437.out (.int .i64 t433) (.slice Ao46 t434.length co46))))) (Kd.S_lt (by (with_reducible repeat (first | apply Kd.S_alloc | apply Kd.S_drewN | apply Kd.S_drew)); exact (Kd.S_mono (Kd.S_far (p := ⟨gb437, 1, none⟩) (Kd.S_far (p := ⟨gb437, 0, none⟩) (Kd.S_types HO431.out BK437.out (by decide)) (fun _ hk => hk.2) (.int .i64 t433)) (fun _ hk => hk.2) (.slice Ao46 t434.length co46)) (fun _ h_ => h_.1))))) (kH (zP (zFG HO436.out BK437.out (.int .i64 t433) (.slice Ao46 t434.length co46))))) (kP (zV HB.out GE423.out GE437.out))); replace HO428 := zA (kL (zP (zFG HO428.out BK437.out (.int .i64 t433) (.slice Ao46 t434.length co46))) hb); replace HO431 := zA (Kd.S_elder' (by (with_reducible repeat (first | apply Kd.S_alloc | apply Kd.S_drewN | apply Kd.S_drew)); exact (Kd.S_mono (Kd.S_far (p := ⟨gb437, 1, none⟩) (Kd.S_far (p := ⟨gb437, 0, none⟩) (Kd.S_types HO431.out BK437.out (by decide)) (fun _ hk => hk.2) (.int .i64 t433)) (fun _ hk => hk.2) (.slice Ao46 t434.length co46)) (fun _ h_ => h_.1))) (Kd.S_base ho0) hb); replace HO436 := zA (kL (zP (zFG HO436.out BK437.out (.int .i64 t433) (.slice Ao46 t434.length co46))) hb); replace BK423 := zA (blk_below (g := gb423) (o := .cells #[.int .i64 a0_0, .slice A0_1 l0_1.length c0_1] 24 (0, 0)) (zBG BK423.out NB423_437.out NB423_437.out) hb); replace BK437 := zA (blk_below (g := gb437) (o := .cells #[.int .i64 t433, .slice Ao46 t434.length co46] 29 (0, 0)) (zRP BK437.out) hb); replace HB := zA (kQ (zV HB.out GE423.out GE437.out) hb); (try clear hb); (try clear ho0); obtain ⟨Ao48, co48, eo48⟩ := Kd.S_slice HO440.out; subst eo48; obtain ⟨Ao49, co49, eo49⟩ := Kd.S_slice HO431.out; subst eo49) | (refine zO (some 38) Tryd.func10 #[.slice Ao48 t438.length co48, .slice Ao49 t429.length co49] ?_; (with_reducible refine (laws_eqInt64SS_BFnExactTracesOfLength.calls k _ _ t438 _ _ t429 true _ ?side1 ?side2 ?side3 ?side4 A12.out).mono ?_); (case side1 => exact zS (Kd.S_reads' HO440.out).2.2); (case side2 => exact (Kd.S_reads' HO440.out).2.1); (case side3 => exact zS (Kd.S_reads' HO431.out).2.2); (case side4 => exact (Kd.S_reads' HO431.out).2.1); rintro e w50 ⟨rfl, hb⟩; refine ⟨_, rfl, ?_⟩; replace HZ := zA (ZPair.below (zPZ HZ.out) hb); replace HO428 := zA (kL (zP HO428.out) hb); replace HO431 := zA (Kd.S_below (by (with_reducible repeat (first | apply Kd.S_alloc | apply Kd.S_drewN | apply Kd.S_drew)); exact HO431.out) hb); replace HO436 := zA (kL (zP HO436.out) hb); replace HO440 := zA (Kd.S_below (by (with_reducible repeat (first | apply Kd.S_alloc | apply Kd.S_drewN | apply Kd.S_drew)); exact HO440.out) hb); replace BK423 := zA (zB1 BK423.out hb); replace BK437 := zA (zB1 BK437.out hb); replace HB := zA (kQ (zV HB.out GE423.out GE437.out) hb); (try clear hb)))
         replace HO428 := zA (zH HO428.out)
         replace HO431 := zA (Kd.S_drew HO431.out)
         replace HO436 := zA (zH HO436.out)
         replace HO440 := zA (Kd.S_drew HO440.out)
         replace BK423 := zA (zK BK423.out)
         replace BK437 := zA (zK BK437.out)
         replace HB := zA (zD HB.out)
         replace HZ := zA (ZPair.drew HZ.out)
         refine start_ (n := 5) (S := fun w' => w'.cell? ⟨gb437, 0, none⟩ = some (.int .i64 t433) ∧ w'.cell? ⟨gb437, 1, none⟩ = some (.slice Ao46 t434.length co46) ∧ w'.cell? ⟨gb423, 0, none⟩ = some (.int .i64 a0_0) ∧ w'.cell? ⟨gb423, 1, none⟩ = some (.slice A0_1 l0_1.length c0_1)) (ds := []) #[false, false, false, false, false] (by kernel_rfl) rfl rfl ⟨(kV BK437.out 0).trans rfl, (kV BK437.out 1).trans rfl, (kV BK423.out 0).trans rfl, (kV BK423.out 1).trans rfl⟩ (fun hHeld => ?_)
         generalize w50.drew = w51 at HO428 HO431 HO436 HO440 BK423 BK437 HB HZ hHeld ⊢
         refine take_ (i := 0) (N := some 45) (v := ?_) (a' := ?_) #[true, false, false, false, false] rfl rfl (by kernel_rfl) (fun _ _ _ h => h) (Or.inl ⟨by rfl, ?_⟩) hHeld ?_ ?_
         rotate_left
         ·rintro w' ⟨s0, s1, s2, s3⟩
          go_simp
          with_reducible rfl
         rotate_left
         ·simp only [Act.put, zL, zM, zN, i64_w, i32_w]
          rfl
         refine take_ (i := 1) (N := some 46) (v := ?_) (a' := ?_) #[true, true, false, false, false] rfl rfl (by kernel_rfl) (fun _ _ _ h => h) (Or.inl ⟨by rfl, ?_⟩) hHeld ?_ ?_
         rotate_left
         ·rintro w' ⟨s0, s1, s2, s3⟩
          go_simp
          with_reducible rfl
         rotate_left
         ·simp only [Act.put, zL, zM, zN, i64_w, i32_w]
          rfl
         refine one_ (i := 2) (N := some 47) #[true, true, true, false, false] rfl rfl (by kernel_rfl) (by decide) (fun K hK => ?_)
         refine goes_ Tryd.func8 (by kernel_rfl) rfl #[.agg #[.int .i64 a0_0, .slice A0_1 l0_1.length c0_1]] (by rfl) rfl rfl zg ?_
         with_reducible refine (laws_toAlphabet.calls k a0_0 _ _ l0_1 t443 t444 _ ?side1 ?side2 A15.out).mono ?_
         (case side1 => exact zS (kO HR0_1.out HB.out))
         (case side2 => exact HC0_1.out)
         rintro e w52 ⟨v445, rfl, ho0, hb⟩
         refine ⟨_, rfl, ?_⟩
         replace HZ := zA (ZPair.below (zPZ HZ.out) hb)
         replace HO431 := zA (Kd.S_elder' (by (with_reducible repeat (first | apply Kd.S_alloc | apply Kd.S_drewN | apply Kd.S_drew)); exact HO431.out) (kC ho0) hb)
         replace HO440 := zA (Kd.S_elder' (by (with_reducible repeat (first | apply Kd.S_alloc | apply Kd.S_drewN | apply Kd.S_drew)); exact HO440.out) (kC ho0) hb)
         have HO446 := zA (kI (kF (kF ho0 (kH (zP HO428.out))) (kH (zP HO436.out))) (kP (zV HB.out GE423.out GE437.out)))
         replace HO428 := zA (kE (zP HO428.out) (kC ho0) hb)
         replace HO436 := zA (kE (zP HO436.out) (kC ho0) hb)
         replace BK423 := zA (zB1 BK423.out hb)
         replace BK437 := zA (zB1 BK437.out hb)
         replace HB := zA (kQ (zV HB.out GE423.out GE437.out) hb)
         (try clear hb)
         (try clear hb2)
         (try clear hk)
         (try clear hi)
         (try clear hgw)
         (try clear ho0)
         obtain ⟨Ao53, co53, eo53⟩ := kM HO446.out
         (first | subst eo53 | (injection eo53 with f1_ f2_ f3_; have f4_ := f1_.symm; have f5_ := f3_.symm; clear f1_ f2_ f3_; subst f4_; subst f5_))
         refine hK.out _ _ ⟨(kV BK437.out 0).trans rfl, (kV BK437.out 1).trans rfl, (kV BK423.out 0).trans rfl, (kV BK423.out 1).trans rfl⟩ (fun hHeld => ?_)
         clear hK K
         refine norm_ (a' := ?_) ?_ ?_
         rotate_left
         ·show Act.put _ (some 47) _ = _
          simp only [Act.put, zL, zM, zN, i64_w, i32_w]
          rfl
         refine one_ (i := 3) (N := some 48) #[true, true, true, true, false] rfl rfl (by kernel_rfl) (by decide) (fun K hK => ?_)
         refine goes_ Tryd.func11 (by kernel_rfl) rfl #[.agg #[.int .i64 t433, .slice Ao46 t434.length co46], .agg #[.int .i64 t443, .slice Ao53 t444.length co53]] (by rfl) rfl rfl zg ?_
         with_reducible refine (laws_eqAlphabet.calls k t433 _ _ t434 t443 _ _ t444 true _ ?side1 ?side2 ?side3 ?side4 A16.out).mono ?_
         (case side1 => exact zS (kB HO436.out).2.2)
         (case side2 => exact (kB HO436.out).2.1)
         (case side3 => exact zS (kB HO446.out).2.2)
         (case side4 => exact (kB HO446.out).2.1)
         rintro e w54 ⟨rfl, hb⟩
         refine ⟨_, rfl, ?_⟩
         replace HZ := zA (ZPair.below (zPZ HZ.out) hb)
         replace HO428 := zA (kL (zP HO428.out) hb)
         replace HO431 := zA (Kd.S_below (by (with_reducible repeat (first | apply Kd.S_alloc | apply Kd.S_drewN | apply Kd.S_drew)); exact HO431.out) hb)
         replace HO436 := zA (kL (zP HO436.out) hb)
         replace HO440 := zA (Kd.S_below (by (with_reducible repeat (first | apply Kd.S_alloc | apply Kd.S_drewN | apply Kd.S_drew)); exact HO440.out) hb)
         replace HO446 := zA (kL (zP HO446.out) hb)
         replace BK423 := zA (zB1 BK423.out hb)
         replace BK437 := zA (zB1 BK437.out hb)
         replace HB := zA (kQ (zV HB.out GE423.out GE437.out) hb)
         (try clear hb)
         (try clear hb2)
         (try clear hk)
         (try clear hi)
         (try clear hgw)
         refine hK.out _ _ ⟨(kV BK437.out 0).trans rfl, (kV BK437.out 1).trans rfl, (kV BK423.out 0).trans rfl, (kV BK423.out 1).trans rfl⟩ (fun hHeld => ?_)
         clear hK K
         refine norm_ (a' := ?_) ?_ ?_
         rotate_left
         ·show Act.put _ (some 48) _ = _
          simp only [Act.put, zL, zM, zN, i64_w, i32_w]
          rfl
         refine pure_ (i := 4) (N := some 49) (v := ?_) (a' := ?_) #[true, true, true, true, true] rfl rfl (by kernel_rfl) (fun _ _ _ h => h) (Or.inl ⟨by rfl, ?_⟩) ?_ ?_
         rotate_left
         ·intro w'
          go_simp
          with_reducible rfl
         rotate_left
         ·simp only [Act.put, zL, zM, zN, i64_w, i32_w]
          rfl
         refine done_ (by kernel_rfl) ?_
         obtain ⟨hcz55_0, hcz55_1, hfz55_0, hfz55_1⟩ := zB3 BK437.out
         try go_wp2_with (first | (refine zO (some 52) Tryd.func12 #[.agg #[.int .i64 t433, .slice Ao46 t434.length co46], .int .i64 1] ?_; (with_reducible refine (laws_markAlphabet.calls k t433 (fun k_ => some k_ = (.slice Ao46 t434.length co46 : Value).ownBlock) (.slice Ao46 t434.length co46) t434 1 t448 t449 w _ ?side1 ?side2 A18.out).mono ?_); (case side1 => exact zV HB.out GE423.out GE437.out); (case side2 => exact jK rfl HO436.out); rintro e w56 ⟨rfl, hy0, hb, hkp⟩; refine ⟨_, rfl, ?_⟩; replace HZ := zA (ZPair.kept (zPZ HZ.out) hkp (fun k_ h_ => Or.inl h_)); replace BK423 := zA (blk_kept (zR BK423.out) hkp (fun hs_ => (fun e_ => (Kd.R_ne HO436.out BK423.out (by decide)) e_) hs_)); replace HO428 := zA (kA (ok' := fun k_ => some k_ ≠ (.slice Ao46 t434.length co46 : Value).ownBlock ∧ some k_ ≠ (.slice Ao53 t444.length co53 : Value).ownBlock) (Kd.R_keptB (HO428.out) hkp (fun k_ hk_ hs_ => (hk_.1.2) hs_)) (fun k_ hk_ => ⟨hk_.1.1.2, hk_.1.2⟩)); replace HO431 := zA (Kd.S_mono (ok' := fun k_ => some k_ ≠ (.slice Ao39 t426.length co39 : Value).ownBlock ∧ some k_ ≠ (.slice Ao46 t434.length co46 : Value).ownBlock ∧ some k_ ≠ (.slice Ao48 t438.length co48 : Value).ownBlock ∧ some k_ ≠ (.slice Ao53 t444.length co53 : Value).ownBlock) (Kd.S_keptB (HO431.out) hkp (fun k_ hk_ hs_ => (hk_.1.1.2) hs_)) (fun k_ hk_ => ⟨hk_.1.1.1.1.2, hk_.1.1.1.2, hk_.1.1.2, hk_.1.2⟩)); replace BK437 := zA (blk_kept (zR BK437.out) hkp (fun hs_ => (fun e_ => (Kd.R_ne HO436.out BK437.out (by decide)) e_) hs_)); replace HO436 := zA (Kd.R_reok rfl hy0 (fun k_ e_ => HO436.out.1 k_ e_)); replace HO440 := zA (Kd.S_mono (ok' := fun k_ => some k_ ≠ (.slice Ao39 t426.length co39 : Value).ownBlock ∧ some k_ ≠ (.slice Ao49 t429.length co49 : Value).ownBlock ∧ some k_ ≠ (.slice Ao46 t434.length co46 : Value).ownBlock ∧ some k_ ≠ (.slice Ao53 t444.length co53 : Value).ownBlock) (Kd.S_keptB (HO440.out) hkp (fun k_ hk_ hs_ => (hk_.1.2) hs_)) (fun k_ hk_ => ⟨hk_.1.1.1.1.2, hk_.1.1.1.2, hk_.1.1.2, hk_.1.2⟩)); replace HO446 := zA (kA (ok' := fun k_ => some k_ ≠ (.slice Ao39 t426.length co39 : Value).ownBlock ∧ some k_ ≠ (.slice Ao46 t434.length co46 : Value).ownBlock) (Kd.R_keptB (HO446.out) hkp (fun k_ hk_ hs_ => (hk_.2) hs_)) (fun k_ hk_ => ⟨hk_.1.1.2, hk_.1.2⟩)); replace HB := zA (hb); (try clear hb); (try clear hkp); (try clear hy0)) | (go_at_call 10; (with_reducible refine (laws_eqInt64SS_BFnExactTracesOfLength.calls k _ _ t438 _ _ t429 true _ ?side1 ?side2 ?side3 ?side4 A20.out).mono ?_); (case side1 => exact zS (Kd.S_reads' HO440.out).2.2); (case side2 => exact (Kd.S_reads' HO440.out).2.1); (case side3 => exact zS (Kd.S_reads' HO431.out).2.2); (case side4 => exact (Kd.S_reads' HO431.out).2.1); rintro e w57 ⟨rfl, hb⟩; replace HZ := zA (ZPair.below (zPZ HZ.out) hb); replace HO428 := zA (kL (zP HO428.out) hb); replace HO431 := zA (Kd.S_below (by (with_reducible repeat (first | apply Kd.S_alloc | apply Kd.S_drewN | apply Kd.S_drew)); exact HO431.out) hb); replace HO436 := zA (kL (zP HO436.out) hb); replace HO440 := zA (Kd.S_below (by (with_reducible repeat (first | apply Kd.S_alloc | apply Kd.S_drewN | apply Kd.S_drew)); exact HO440.out) hb); replace HO446 := zA (kL (zP HO446.out) hb); replace BK423 := zA (zB1 BK423.out hb); replace BK437 := zA (zB1 BK437.out hb); replace HB := zA (kQ (zV HB.out GE423.out GE437.out) hb); (try clear hb); (try clear hb2); (try clear hk); (try clear hi); (try clear hgw)) | (refine zO (some 68) Tryd.func13 #[.slice Ao48 t438.length co48, .int .i64 1] ?_; (with_reducible refine (laws_markInt64SS.calls k (fun k_ => nbZ ≤ k_ ∧ ¬ (some k_ = (.slice Ao46 t434.length co46 : Value).ownBlock ∨ k_ = gb423 ∨ k_ = gb437)) (.slice Ao48 t438.length co48) t438 1 t451 t452 w _ ?side1 ?side2 A22.out).mono ?_); (case side1 => exact zV HB.out GE423.out GE437.out); (case side2 => exact (show ZPair nbZ w _ (fun k_ => some k_ = (.slice Ao46 t434.length co46 : Value).ownBlock ∨ k_ = gb423 ∨ k_ = gb437) (.slice Ao49 t429.length co49) t429 (.slice Ao48 t438.length co48) t438 from zPZ HZ.out).2.2); rintro e w58 ⟨rfl, hy0, hb, hkp⟩; refine ⟨_, rfl, ?_⟩; replace BK423 := zA (blk_kept (zR BK423.out) hkp (fun hs_ => hs_.2 (Or.inr (Or.inl rfl)))); have hza_ := ZPair.after (show ZPair nbZ w _ (fun k_ => some k_ = (.slice Ao46 t434.length co46 : Value).ownBlock ∨ k_ = gb423 ∨ k_ = gb437) (.slice Ao49 t429.length co49) t429 (.slice Ao48 t438.length co48) t438 from zPZ HZ.out) hkp; replace HO431 := zA (Kd.S_mono (ok' := fun k_ => some k_ ≠ (.slice Ao48 t438.length co48 : Value).ownBlock) hza_ (fun k_ hk_ e_ => Nat.not_le.2 hk_.1 ((Kd.S_R hy0).1 k_ e_.symm).1)); replace BK437 := zA (blk_kept (zR BK437.out) hkp (fun hs_ => hs_.2 (Or.inr (Or.inr (rfl))))); replace HO440 := zA (Kd.S_mono (ok' := fun k_ => some k_ ≠ (.slice Ao49 t429.length co49 : Value).ownBlock) hy0 (fun k_ hk_ e_ => Nat.not_le.2 ((Kd.S_R hza_).1 k_ e_.symm).1 hk_.1)); clear hza_ HZ; replace HB := zA (hb); (try clear hb); (try clear hkp); (try clear hy0)) | ((with_reducible refine kR (f := 14) rfl ?_); refine goesL_ (some 71) rfl rfl Tryd.func14 (by kernel_rfl) rfl #[.slice Ao48 t452.length co48, .int .i64 1] rfl (by (try simp only [List.map_toArray, List.map_cons, List.map_nil]); first | done | (rw [show t452.length = t438.length from (Kd.S_reads' HO440.out).1.symm] <;> rfl) | rfl | (simp only [List.length_drop, List.length_take]; rfl)) ?_; (with_reducible refine (laws_heldInt64SS.calls k _ _ t452 1 t453 _ ?side1 ?side2 A23.out).mono ?_); (case side1 => exact zS (Kd.S_reads' HO440.out).2.2); (case side2 => rw [show t452.length = t438.length from (Kd.S_reads' HO440.out).1.symm]; exact (Kd.S_reads' HO440.out).2.1); rintro e w' ⟨rfl, ⟨nd, rfl⟩⟩; refine ⟨_, rfl, ?_⟩; obtain ⟨hcz59_0, hcz59_1, hfz59_0, hfz59_1⟩ := zB3 BK423.out) | (refine zO (some 79) Tryd.func8 #[.agg #[.int .i64 a0_0, .slice A0_1 l0_1.length c0_1]] ?_; (with_reducible refine (laws_toAlphabet.calls k a0_0 _ _ l0_1 t454 t455 _ ?side1 ?side2 A26.out).mono ?_); (case side1 => exact zS (kO HR0_1.out (zV HB.out GE423.out GE437.out))); (case side2 => exact HC0_1.out); rintro e w60 ⟨v456, rfl, ho0, hb⟩; refine ⟨_, rfl, ?_⟩; replace HO431 := zA (Kd.S_elder' (by (with_reducible repeat (first | apply Kd.S_alloc | apply Kd.S_drewN | apply Kd.S_drew)); exact HO431.out) (kC ho0) hb); replace HO440 := zA (Kd.S_elder' (by (with_reducible repeat (first | apply Kd.S_alloc | apply Kd.S_drewN | apply Kd.S_drew)); exact HO440.out) (kC ho0) hb); have HO457 := zA (kI ho0 (kP (zV HB.out GE423.out GE437.out))); replace BK423 := zA (zB1 BK423.out hb); replace BK437 := zA (zB1 BK437.out hb); replace HB := zA (kQ (zV HB.out GE423.out GE437.out) hb); (try clear hb); (try clear ho0); obtain ⟨Ao61, co61, eo61⟩ := kM HO457.out; subst eo61) | (refine zO (some 81) Tryd.func9 #[.agg #[.int .i64 t454, .slice Ao61 t455.length co61], .int .i64 a1] ?_; (with_reducible refine (impl_TracesOfLength.calls k t454 _ _ t455 a1 t458 t461 _ ?side1 ?side2 ?side3 A27.out).mono ?_); (case side1 => exact zS (kB HO457.out).2.2); (case side2 => exact (kB HO457.out).2.1); (case side3 => exact TabW.below HT.out (zV HB.out GE423.out GE437.out)); rintro e w62 ⟨v459, rfl, ho0, hb⟩; refine ⟨_, rfl, ?_⟩; have HO460 := zA (Kd.S_lower (Kd.S_new' (Kd.S_new' (Kd.S_new' ho0 (Kd.S_lt (by (with_reducible repeat (first | apply Kd.S_alloc | apply Kd.S_drewN | apply Kd.S_drew)); exact HO431.out))) (Kd.S_lt (by (with_reducible repeat (first | apply Kd.S_alloc | apply Kd.S_drewN | apply Kd.S_drew)); exact HO440.out))) (kH (zP HO457.out))) (kP (zV HB.out GE423.out GE437.out))); replace HO431 := zA (Kd.S_elder' (by (with_reducible repeat (first | apply Kd.S_alloc | apply Kd.S_drewN | apply Kd.S_drew)); exact HO431.out) (Kd.S_base ho0) hb); replace HO440 := zA (Kd.S_elder' (by (with_reducible repeat (first | apply Kd.S_alloc | apply Kd.S_drewN | apply Kd.S_drew)); exact HO440.out) (Kd.S_base ho0) hb); replace HO457 := zA (kL (zP HO457.out) hb); replace BK423 := zA (zB1 BK423.out hb); replace BK437 := zA (zB1 BK437.out hb); replace HB := zA (kQ (zV HB.out GE423.out GE437.out) hb); (try clear hb); (try clear ho0); obtain ⟨Ao63, co63, eo63⟩ := Kd.S_slice HO460.out; subst eo63) | (refine zO (some 86) Tryd.func10 #[.slice Ao63 t458.length co63, .slice Ao49 t429.length co49] ?_; (with_reducible refine (laws_eqInt64SS_BFnExactTracesOfLength.calls k _ _ t458 _ _ t429 true _ ?side1 ?side2 ?side3 ?side4 A28.out).mono ?_); (case side1 => exact zS (Kd.S_reads' HO460.out).2.2); (case side2 => exact (Kd.S_reads' HO460.out).2.1); (case side3 => exact zS (Kd.S_reads' HO431.out).2.2); (case side4 => exact (Kd.S_reads' HO431.out).2.1); rintro e w64 ⟨rfl, hb⟩; refine ⟨_, rfl, ?_⟩; replace HO431 := zA (Kd.S_below (by (with_reducible repeat (first | apply Kd.S_alloc | apply Kd.S_drewN | apply Kd.S_drew)); exact HO431.out) hb); replace HO440 := zA (Kd.S_below (by (with_reducible repeat (first | apply Kd.S_alloc | apply Kd.S_drewN | apply Kd.S_drew)); exact HO440.out) hb); replace HO457 := zA (kL (zP HO457.out) hb); replace HO460 := zA (Kd.S_below (by (with_reducible repeat (first | apply Kd.S_alloc | apply Kd.S_drewN | apply Kd.S_drew)); exact HO460.out) hb); replace BK423 := zA (zB1 BK423.out hb); replace BK437 := zA (zB1 BK437.out hb); replace HB := zA (kQ (zV HB.out GE423.out GE437.out) hb); (try clear hb)) | ((with_reducible refine kR (f := 14) rfl ?_); refine goesL_ (some 95) rfl rfl Tryd.func14 (by kernel_rfl) rfl #[.slice Ao48 t452.length co48, .int .i64 1] rfl (by (try simp only [List.map_toArray, List.map_cons, List.map_nil]); first | done | (rw [show t452.length = t438.length from (Kd.S_reads' HO440.out).1.symm] <;> rfl) | rfl | (simp only [List.length_drop, List.length_take]; rfl)) ?_; (with_reducible refine (laws_heldInt64SS.calls k _ _ t452 1 t463 _ ?side1 ?side2 A31.out).mono ?_); (case side1 => exact zS (Kd.S_reads' HO440.out).2.2); (case side2 => rw [show t452.length = t438.length from (Kd.S_reads' HO440.out).1.symm]; exact (Kd.S_reads' HO440.out).2.1); rintro e w' ⟨rfl, ⟨nd, rfl⟩⟩; refine ⟨_, rfl, ?_⟩))
         go_ret
         exact ⟨zr, zV HB.out GE423.out GE437.out⟩
        rw [if_neg c33] at H
        exact absurd H (by simp)
       rw [if_neg c30] at H
       exact absurd H (by simp)
      replace c29 := Bool.eq_false_iff.mpr c29
      subst c29
      rw [if_neg (show ¬ (false = true) by decide)] at H
      exact absurd H (by simp)
     rw [if_neg c25] at H
     exact absurd H (by simp)
    replace c21 := Bool.eq_false_iff.mpr c21
    subst c21
    rw [if_neg (show ¬ (false = true) by decide)] at H
    exact absurd H (by simp)
   replace c17 := Bool.eq_false_iff.mpr c17
   subst c17
   rw [if_neg (show ¬ (false = true) by decide)] at H
   exact absurd H (by simp)
  rw [if_neg c14] at H
  exact absurd H (by simp)
 replace c13 := Bool.eq_false_iff.mpr c13
 subst c13
 rw [if_neg (show ¬ (false = true) by decide)] at H
 exact absurd H (by simp)

end Go.Proofs.YtemdfjdmokbcoaaDoor.PAll
