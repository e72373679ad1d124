-- Printed by a program of the session (wip/tools/pgen.py) out of the translation. Not trusted: Lean checks it.
import Derived.Test.YthgapkbkhoeleaaDoorPAllx0
import Derived.Test.YthgapkbkhoeleaaDoorPAllx1
namespace Go.Proofs.YthgapkbkhoeleaaDoor.PAll
open Go.RowKit Go.Proofs.YthgapkbkhoeleaaDoor.T Go.Proofs.YthgapkbkhoeleaaDoorW.PrintWords Go.Proofs.YthgapkbkhoeleaaDoorW.PrintLast Go.Proofs.YthgapkbkhoeleaaDoorW.PrintMore
attribute [local go_sem] max2_int min2_int max_two min_two max_three min_three max_four min_four   -- for this text's walks alone
set_option linter.unusedVariables false
set_option linter.unusedSimpArgs false

/-! ### spec_l03Same: function 79 -/
def spec_l03Same.l0 : Nat → List Int → List Int → Int → Int → List Int → Option (Bool)
 | 0, _, _, _, _, _ => none
 | k + 1, x1, x7, x8, x170000, x170001 => if x8 < (x1.length : Int) then (if 0 ≤ x8 then ((spec_l03First.f k x170000 x170001 x7 (rd x1 x8)).bind fun t174 => (if t174 < 0 then (some false) else ((spec_l03Without.f x7 t174).bind fun t175 => (spec_l03Same.l0 k x1 t175 (wrap64 (x8 + 1)) x170000 x170001)))) else (none)) else (some ((x7.length : Int) == 0))
def spec_l03Same.f (k : Nat) (a0_0 : Int) (l0_1 : List Int) (l1 : List Int) (l2 : List Int) : Option (Bool) := (spec_l01Own.f l2).bind fun t170 => (spec_l03Same.l0 k l1 t170 0 a0_0 l0_1)

def spec_l03Same.T5 : Bool × List (List Nat × List Nat) := (true, [([], []), ([], []), ([], []), ([], []), ([2, 3], [2, 3]), ([4], [4]), ([0, 1, 5], [0, 1, 5]), ([6, 6, 0, 1, 2, 3, 4, 5, 6], [6])])
def spec_l03Same.B5 : List Nat := [0, 0, 0, 0, 12, 28, 63, 127]
theorem spec_l03Same.tab5 : rtab .any (opsOf Tryd.f79 5) = spec_l03Same.T5 := by kernel_rfl
theorem spec_l03Same.bits5 : waitsOk spec_l03Same.T5.2 spec_l03Same.B5 = true := by kernel_rfl
set_option maxHeartbeats 8000000 in
set_option maxRecDepth 100000 in
theorem spec_l03Same.calls (k : Nat) (a0_0 : Int) (A0_1 : Option Addr) (c0_1 : Nat) (l0_1 : List Int) (A1 : Option Addr) (c1 : Nat) (l1 : List Int) (A2 : Option Addr) (c2 : Nat) (l2 : List Int) (r : Bool) (w : World) (hr0_1 : Kd.C (Kd.int .i64) w A0_1 l0_1.length l0_1) (hc0_1 : l0_1.length ≤ c0_1) (hr1 : Kd.C (Kd.int .i64) w A1 l1.length l1) (hc1 : l1.length ≤ c1) (hr2 : Kd.C (Kd.int .i64) w A2 l2.length l2) (hc2 : l2.length ≤ c2) (h : spec_l03Same.f k a0_0 l0_1 l1 l2 = some r) :
  Calls Tryd.prog 79 #[.agg #[.int .i64 a0_0, .slice A0_1 l0_1.length c0_1], .slice A1 l1.length c1, .slice A2 l2.length c2] w fun e w' => e = .returned (.bool r) ∧ Below w.heap.size w w' := by
 have hu29 := Tryd.underlying29
 have HR0_1 := zA hr0_1
 have HC0_1 := zA hc0_1
 clear hr0_1 hc0_1
 have HR1 := zA hr1
 have HC1 := zA hc1
 clear hr1 hc1
 have HR2 := zA hr2
 have HC2 := zA hc2
 clear hr2 hc2
 have HB := zA (kW w.heap.size w)
 have H := h
 unfold spec_l03Same.f at H
 clear h
 obtain ⟨t170, A4, H⟩ := zb H
 try dsimp only at H
 have H' := zA H
 clear H
 go_enter Tryd.func79, Tryd.ntmps79
 go_wp2_with (first | (refine zBE 3 #[.int .i64 a0_0, .slice A0_1 l0_1.length c0_1] 29 ?_; intro gb169 hg w5 hbox hb; have BK169 := zA (hbox); have GW169 := zA (zBH hg HB.out); have GE169 := zA (zBH hg HB.out); replace HB := zA (kQ (zQ HB.out) hb); clear hb hbox hg) | (refine zO (some 11) Tryd.func80 #[.slice A2 l2.length c2] ?_; (with_reducible refine (spec_l01Own.calls _ _ l2 t170 _ ?side1 ?side2 A4.out).mono ?_); (case side1 => exact zS (kO HR2.out HB.out)); (case side2 => exact HC2.out); rintro e w6 ⟨v171, rfl, ho0, hb⟩; refine ⟨_, rfl, ?_⟩; have HO172 := zA (kI ho0 (kP (zT HB.out GE169.out))); replace BK169 := zA (zB1 BK169.out hb); replace HB := zA (kQ (zT HB.out GE169.out) hb); (try clear hb); (try clear ho0)))
 go_loopg [7, 8] k (fun kq v7 v8 w' => ∃ (x7_1 : List Int) (x8_1 : Int), v8 = .int .i64 x8_1 ∧ Aside0 (spec_l03Same.l0 kq l1 x7_1 x8_1 a0_0 l0_1 = some r) ∧ Aside0 (kq ≤ k) ∧ Aside0 (Kd.R (Kd.int .i64) 2 w' w.heap.size (fun _ => True) v7 x7_1) ∧ Aside0 (w'.heap[gb169]? = some (.cells #[.int .i64 a0_0, (.slice A0_1 l0_1.length c0_1)] 29 (0, 0))) ∧ Aside0 (Below w.heap.size w w'))
 case atStart => exact ⟨(t170), (0), zs, H', ⟨Nat.le_refl _⟩, ⟨zP HO172.out⟩, ⟨zR BK169.out⟩, ⟨zT HB.out GE169.out⟩⟩
 case round =>
  clear H'
  try clear c1
  try clear c2
  obtain ⟨x7_1, x8_1, rfl, HA, HK1, HO_7, BK169, HB⟩ := hrel
  cases gk with
  | zero => exact absurd HA.out (by simp [spec_l03Same.l0])
  | succ k1 =>
   have H := HA.out
   clear HA
   simp only [spec_l03Same.l0] at H
   by_cases c7 : x8_1 < (l1.length : Int)
   ·rw [if_pos c7] at H
    have c7b0 : decide (x8_1 < (l1.length : Int)) = true := decide_eq_true c7
    clear c7
    by_cases c8 : 0 ≤ x8_1
    ·rw [if_pos c8] at H
     have c8b0 : decide (0 ≤ x8_1) = true := decide_eq_true c8
     clear c8
     obtain ⟨t174, A9, H⟩ := zb H
     try dsimp only at H
     by_cases c10 : t174 < 0
     ·rw [if_pos c10] at H
      have c10b0 : decide (t174 < 0) = true := decide_eq_true c10
      clear c10
      obtain rfl := Option.some.inj H
      try go_wp2
      replace HO_7 := zA (zH HO_7.out)
      replace BK169 := zA (zK BK169.out)
      replace HB := zA (zD HB.out)
      have p173 : 0 ≤ (x8_1 : Int) := zd
      have q173 : x8_1 < (l1.length : Int) := zd
      obtain ⟨ad173, e173, hx173_0⟩ := Kd.at_int HR1.out x8_1 p173 q173
      have hw173_0 := hx173_0
      cases e173
      replace hx173_0 := (HB.out.cell (jG w _ hx173_0)).trans hx173_0
      replace p173 := eq_true p173
      replace q173 := eq_true q173
      obtain ⟨Ao12, co12, eo12⟩ := kM HO_7.out
      (first | subst eo12 | (injection eo12 with f1_ f2_ f3_; have f4_ := f1_.symm; have f5_ := f3_.symm; clear f1_ f2_ f3_; subst f4_; subst f5_))
      refine start_ (n := 8) (S := fun w' => w'.cell? ⟨gb169, 0, none⟩ = some (.int .i64 a0_0) ∧ w'.cell? ⟨gb169, 1, none⟩ = some (.slice A0_1 l0_1.length c0_1) ∧ w'.cell? (ad173.add (x8_1).toNat) = some (.int .i64 (rd l1 x8_1))) (ds := []) #[false, false, false, false, false, false, false, false] (by kernel_rfl) rfl rfl ⟨(kV BK169.out 0).trans rfl, (kV BK169.out 1).trans rfl, (pw_cell_below HB.out hw173_0)⟩ (fun hHeld => ?_); refine with_tabW spec_l03Same.tab5 spec_l03Same.bits5 (fun HT_ HW_ => ?_)
      generalize wr.drew = w11 at HO_7 BK169 HB hx173_0 hHeld ⊢
      refine zp 1 (some 19) #[false, true, false, false, false, false, false, false] HT_.out ?_
      refine zp 2 (some 20) #[false, true, true, false, false, false, false, false] HT_.out ?_
      refine zp 3 (some 21) #[false, true, true, true, false, false, false, false] HT_.out ?_
      refine zp 4 (some 22) #[false, true, true, true, true, false, false, false] HT_.out ?_
      refine ze 0 (some 18) #[true, true, true, true, true, false, false, false] HT_.out HW_.out hHeld ?_
      refine ze 5 (some 23) #[true, true, true, true, true, true, false, false] HT_.out HW_.out hHeld ?_
      refine one_ (i := 6) (N := some 24) #[true, true, true, true, true, true, true, false] rfl rfl (one_of HT_.out (by kernel_rfl)) (by decide) (fun K hK => ?_)
      refine goes_ Tryd.func153 (by kernel_rfl) rfl #[.agg #[.int .i64 a0_0, .slice A0_1 l0_1.length c0_1], .slice Ao12 x7_1.length co12, .int .i64 (rd l1 x8_1)] (by rfl) rfl rfl zg ?_
      with_reducible refine (spec_l03First.calls k1 a0_0 _ _ l0_1 _ _ x7_1 (rd l1 x8_1) t174 _ ?side1 ?side2 ?side3 ?side4 A9.out).mono ?_
      (case side1 => exact zS (kO HR0_1.out HB.out))
      (case side2 => exact HC0_1.out)
      (case side3 => exact zS (kB HO_7.out).2.2)
      (case side4 => exact (kB HO_7.out).2.1)
      rintro e w13 ⟨rfl, hb⟩
      refine ⟨_, rfl, ?_⟩
      replace HO_7 := zA (kL (zP HO_7.out) hb)
      replace BK169 := zA (zB1 BK169.out hb)
      replace HB := zA (kQ (zT HB.out GE169.out) hb)
      (try clear hb)
      (try clear hb2)
      (try clear hk)
      (try clear hi)
      (try clear hgw)
      refine hK.out _ _ ⟨(kV BK169.out 0).trans rfl, (kV BK169.out 1).trans rfl, (pw_cell_below HB.out hw173_0)⟩ (fun hHeld => ?_)
      clear hK K
      refine norm_ (a' := ?_) ?_ ?_
      rotate_left
      ·show Act.put _ (some 24) _ = _
       simp only [Act.put, zL, zM, zN, i64_w, i32_w]
       rfl
      refine zp 7 (some 9) #[true, true, true, true, true, true, true, true] HT_.out ?_
      refine done_ (done_of HT_.out (by kernel_rfl)) ?_
      try go_wp2
      go_ret
      exact ⟨zr, zT HB.out GE169.out⟩
     rw [if_neg c10] at H
     have c10b0 : decide (t174 < 0) = false := decide_eq_false c10
     clear c10
     obtain ⟨t175, A14, H⟩ := zb H
     try dsimp only at H
     have H' := zA H
     clear H
     try go_wp2
     replace HO_7 := zA (zH HO_7.out)
     replace BK169 := zA (zK BK169.out)
     replace HB := zA (zD HB.out)
     have p173 : 0 ≤ (x8_1 : Int) := zd
     have q173 : x8_1 < (l1.length : Int) := zd
     obtain ⟨ad173, e173, hx173_0⟩ := Kd.at_int HR1.out x8_1 p173 q173
     have hw173_0 := hx173_0
     cases e173
     replace hx173_0 := (HB.out.cell (jG w _ hx173_0)).trans hx173_0
     replace p173 := eq_true p173
     replace q173 := eq_true q173
     obtain ⟨Ao16, co16, eo16⟩ := kM HO_7.out
     (first | subst eo16 | (injection eo16 with f1_ f2_ f3_; have f4_ := f1_.symm; have f5_ := f3_.symm; clear f1_ f2_ f3_; subst f4_; subst f5_))
     refine start_ (n := 8) (S := fun w' => w'.cell? ⟨gb169, 0, none⟩ = some (.int .i64 a0_0) ∧ w'.cell? ⟨gb169, 1, none⟩ = some (.slice A0_1 l0_1.length c0_1) ∧ w'.cell? (ad173.add (x8_1).toNat) = some (.int .i64 (rd l1 x8_1))) (ds := []) #[false, false, false, false, false, false, false, false] (by kernel_rfl) rfl rfl ⟨(kV BK169.out 0).trans rfl, (kV BK169.out 1).trans rfl, (pw_cell_below HB.out hw173_0)⟩ (fun hHeld => ?_); refine with_tabW spec_l03Same.tab5 spec_l03Same.bits5 (fun HT_ HW_ => ?_)
     generalize wr.drew = w15 at HO_7 BK169 HB hx173_0 hHeld ⊢
     refine zp 1 (some 19) #[false, true, false, false, false, false, false, false] HT_.out ?_
     refine zp 2 (some 20) #[false, true, true, false, false, false, false, false] HT_.out ?_
     refine zp 3 (some 21) #[false, true, true, true, false, false, false, false] HT_.out ?_
     refine zp 4 (some 22) #[false, true, true, true, true, false, false, false] HT_.out ?_
     refine ze 0 (some 18) #[true, true, true, true, true, false, false, false] HT_.out HW_.out hHeld ?_
     refine ze 5 (some 23) #[true, true, true, true, true, true, false, false] HT_.out HW_.out hHeld ?_
     refine one_ (i := 6) (N := some 24) #[true, true, true, true, true, true, true, false] rfl rfl (one_of HT_.out (by kernel_rfl)) (by decide) (fun K hK => ?_)
     refine goes_ Tryd.func153 (by kernel_rfl) rfl #[.agg #[.int .i64 a0_0, .slice A0_1 l0_1.length c0_1], .slice Ao16 x7_1.length co16, .int .i64 (rd l1 x8_1)] (by rfl) rfl rfl zg ?_
     with_reducible refine (spec_l03First.calls k1 a0_0 _ _ l0_1 _ _ x7_1 (rd l1 x8_1) t174 _ ?side1 ?side2 ?side3 ?side4 A9.out).mono ?_
     (case side1 => exact zS (kO HR0_1.out HB.out))
     (case side2 => exact HC0_1.out)
     (case side3 => exact zS (kB HO_7.out).2.2)
     (case side4 => exact (kB HO_7.out).2.1)
     rintro e w17 ⟨rfl, hb⟩
     refine ⟨_, rfl, ?_⟩
     replace HO_7 := zA (kL (zP HO_7.out) hb)
     replace BK169 := zA (zB1 BK169.out hb)
     replace HB := zA (kQ (zT HB.out GE169.out) hb)
     (try clear hb)
     (try clear hb2)
     (try clear hk)
     (try clear hi)
     (try clear hgw)
     refine hK.out _ _ ⟨(kV BK169.out 0).trans rfl, (kV BK169.out 1).trans rfl, (pw_cell_below HB.out hw173_0)⟩ (fun hHeld => ?_)
     clear hK K
     refine norm_ (a' := ?_) ?_ ?_
     rotate_left
     ·show Act.put _ (some 24) _ = _
      simp only [Act.put, zL, zM, zN, i64_w, i32_w]
      rfl
     refine zp 7 (some 9) #[true, true, true, true, true, true, true, true] HT_.out ?_
     refine done_ (done_of HT_.out (by kernel_rfl)) ?_
     try go_wp2_with (first | (refine zO (some 29) Tryd.func154 #[.slice Ao16 x7_1.length co16, .int .i64 t174] ?_; (with_reducible refine (spec_l03Without.calls _ _ x7_1 t174 t175 _ ?side1 ?side2 A14.out).mono ?_); (case side1 => exact zS (kB HO_7.out).2.2); (case side2 => exact (kB HO_7.out).2.1); rintro e w18 ⟨v176, rfl, ho0, hb⟩; refine ⟨_, rfl, ?_⟩; have HO177 := zA (kI (kF ho0 (kH (zP HO_7.out))) (kP (zT HB.out GE169.out))); replace HO_7 := zA (kE (zP HO_7.out) (kC ho0) hb); replace BK169 := zA (zB1 BK169.out hb); replace HB := zA (kQ (zT HB.out GE169.out) hb); (try clear hb); (try clear ho0)))
     go_roundg k1
     case measure => have := HK1.out; omega
     case rel => exact ⟨(t175), (wrap64 (x8_1 + 1)), zs, H', ⟨by have := HK1.out; omega⟩, ⟨zPM HO177.out (fun _ hk => trivial)⟩, ⟨zR BK169.out⟩, ⟨zT HB.out GE169.out⟩⟩
    rw [if_neg c8] at H
    exact absurd H (by simp)
   rw [if_neg c7] at H
   have c7b0 : decide (x8_1 < (l1.length : Int)) = false := decide_eq_false c7
   clear c7
   obtain rfl := Option.some.inj H
   obtain ⟨Ao19, co19, eo19⟩ := kM HO_7.out
   subst eo19
   go_wp2
   go_ret
   exact ⟨zr, zT HB.out GE169.out⟩

/-! ### spec_l05Meet: function 81 -/
mutual
def spec_l05Meet.l0 : Nat → List Int → List Int → List Int → Bool → Int → List Int → Option (List Int)
 | 0, _, _, _, _, _, _ => none
 | k + 1, x7, x8, x9, x10, x179000, x179001 => if x10 = true then (spec_l05Meet.l1 k x7 x8 x9 false 0 x179000 x179001) else (some x7)
def spec_l05Meet.l1 : Nat → List Int → List Int → List Int → Bool → Int → Int → List Int → Option (List Int)
 | 0, _, _, _, _, _, _, _ => none
 | k + 1, x7, x8, x9, x10, x11, x179000, x179001 => if x11 < x179000 then ((spec_l03First.f k x179000 x179001 x8 x11).bind fun t188 => ((spec_l03First.f k x179000 x179001 x9 x11).bind fun t189 => (if t188 ≥ 0 then (spec_l05Meet.j2 k x7 x8 x9 x10 x11 t188 t189 (decide (t189 ≥ 0)) x179000 x179001) else (spec_l05Meet.j2 k x7 x8 x9 x10 x11 t188 t189 false x179000 x179001)))) else (spec_l05Meet.l0 k x7 x8 x9 x10 x179000 x179001)
def spec_l05Meet.j2 : Nat → List Int → List Int → List Int → Bool → Int → Int → Int → Bool → Int → List Int → Option (List Int)
 | 0, _, _, _, _, _, _, _, _, _, _ => none
 | k + 1, x7, x8, x9, x10, x11, x12, x13, x39, x179000, x179001 => if x39 = true then (if x7.length < 17592186044416 then ((spec_l03Without.f x8 x12).bind fun t193 => ((spec_l03Without.f x9 x13).bind fun t196 => (spec_l05Meet.l1 k (x7 ++ [x11]) t193 t196 true (wrap64 (x11 + 1)) x179000 x179001))) else (none)) else (spec_l05Meet.l1 k x7 x8 x9 x10 (wrap64 (x11 + 1)) x179000 x179001)
end
def spec_l05Meet.f (k : Nat) (a0_0 : Int) (l0_1 : List Int) (l1 : List Int) (l2 : List Int) : Option (List Int) := (spec_l01Own.f l1).bind fun t182 => ((spec_l01Own.f l2).bind fun t185 => (spec_l05Meet.l0 k (([] : List Int)) t182 t185 true a0_0 l0_1))

def spec_l05Meet.T8 : Bool × List (List Nat × List Nat) := (true, [([], []), ([], []), ([], []), ([0, 1, 2], [0, 1, 2]), ([], []), ([], []), ([], []), ([4, 5, 6, 3], [4, 5, 6]), ([3, 7, 0, 1, 2, 3], [3]), ([7, 8, 0, 1, 2, 3, 4, 5, 6, 7, 8], [7])])
def spec_l05Meet.B8 : List Nat := [0, 0, 0, 7, 0, 0, 0, 127, 255, 511]
theorem spec_l05Meet.tab8 : rtab .any (opsOf Tryd.f81 8) = spec_l05Meet.T8 := by kernel_rfl
theorem spec_l05Meet.bits8 : waitsOk spec_l05Meet.T8.2 spec_l05Meet.B8 = true := by kernel_rfl
set_option maxHeartbeats 8000000 in
set_option maxRecDepth 100000 in
theorem spec_l05Meet.calls (k : Nat) (a0_0 : Int) (A0_1 : Option Addr) (c0_1 : Nat) (l0_1 : List Int) (A1 : Option Addr) (c1 : Nat) (l1 : List Int) (A2 : Option Addr) (c2 : Nat) (l2 : List Int) (r : List Int) (w : World) (hr0_1 : Kd.C (Kd.int .i64) w A0_1 l0_1.length l0_1) (hc0_1 : l0_1.length ≤ c0_1) (hr1 : Kd.C (Kd.int .i64) w A1 l1.length l1) (hc1 : l1.length ≤ c1) (hr2 : Kd.C (Kd.int .i64) w A2 l2.length l2) (hc2 : l2.length ≤ c2) (h : spec_l05Meet.f k a0_0 l0_1 l1 l2 = some r) :
  Calls Tryd.prog 81 #[.agg #[.int .i64 a0_0, .slice A0_1 l0_1.length c0_1], .slice A1 l1.length c1, .slice A2 l2.length c2] w fun e w' => ∃ v0_ : Value, e = .returned (v0_) ∧ Kd.R (Kd.int .i64) 2 w' w.heap.size (fun _ => True) v0_ r ∧ Below w.heap.size w w' := by
 have hu29 := Tryd.underlying29
 have HR0_1 := zA hr0_1
 have HC0_1 := zA hc0_1
 clear hr0_1 hc0_1
 have HR1 := zA hr1
 have HC1 := zA hc1
 clear hr1 hc1
 have HR2 := zA hr2
 have HC2 := zA hc2
 clear hr2 hc2
 have HB := zA (kW w.heap.size w)
 have H := h
 unfold spec_l05Meet.f at H
 clear h
 obtain ⟨y179, hy179⟩ : ∃ y_ : List Int, y_ = (([] : List Int)) := ⟨_, rfl⟩
 replace H : ((spec_l01Own.f l1).bind fun t182 => ((spec_l01Own.f l2).bind fun t185 => (spec_l05Meet.l0 k y179 t182 t185 true a0_0 l0_1))) = some r := zy hy179 H
 have Ny179 := zA hy179
 clear hy179
 obtain ⟨t182, A4, H⟩ := zb H
 try dsimp only at H
 obtain ⟨t185, A5, H⟩ := zb H
 try dsimp only at H
 have H' := zA H
 clear H
 go_enter Tryd.func81, Tryd.ntmps81
 go_wp2_with (first | (refine zBE 3 #[.int .i64 a0_0, .slice A0_1 l0_1.length c0_1] 29 ?_; intro gb178 hg w6 hbox hb; have BK178 := zA (hbox); have GW178 := zA (zBH hg HB.out); have GE178 := zA (zBH hg HB.out); replace HB := zA (kQ (zQ HB.out) hb); clear hb hbox hg) | ((with_reducible refine kS (N := 14) rfl ?_); refine Kd.R_lit (Kd.int .i64) _ 2 ?hg (N := 14) ?hd (xs := ([] : List Int)) (inner := []) (ok := fun _ => True) (okp := fun _ => True) ?hr ?hp (fun _ hk => hk) trivial (kW _ _) (Nat.le_refl _) (by simp) ?_; (case hd => rfl); (case hg => rfl); (case hr => first | (go_simp; done) | (go_simp; rfl)); (case hp => exact (Reps.none _ _)); intro v180 w7 ho8 hb hg_ hnew_; clear hg_ hnew_; (first | rw [← Ny179.out] at ho8 | (simp only [Int.reduceToNat] at ho8; rw [← Ny179.out] at ho8)); have HO181 := zA (kI ho8 (kP (zT HB.out GE178.out))); replace BK178 := zA (zB1 BK178.out hb); replace HB := zA (kQ (zT HB.out GE178.out) hb); clear hb ho8) | (refine zO (some 16) Tryd.func80 #[.slice A1 l1.length c1] ?_; (with_reducible refine (spec_l01Own.calls _ _ l1 t182 _ ?side1 ?side2 A4.out).mono ?_); (case side1 => exact zS (kO HR1.out HB.out)); (case side2 => exact HC1.out); rintro e w9 ⟨v183, rfl, ho0, hb⟩; refine ⟨_, rfl, ?_⟩; have HO184 := zA (kI (kF ho0 (kH (zP HO181.out))) (kP (zT HB.out GE178.out))); replace HO181 := zA (kE (zP HO181.out) (kC ho0) hb); replace BK178 := zA (zB1 BK178.out hb); replace HB := zA (kQ (zT HB.out GE178.out) hb); (try clear hb); (try clear ho0)) | (refine zO (some 18) Tryd.func80 #[.slice A2 l2.length c2] ?_; (with_reducible refine (spec_l01Own.calls _ _ l2 t185 _ ?side1 ?side2 A5.out).mono ?_); (case side1 => exact zS (kO HR2.out HB.out)); (case side2 => exact HC2.out); rintro e w10 ⟨v186, rfl, ho0, hb⟩; refine ⟨_, rfl, ?_⟩; have HO187 := zA (kI (kF (kF ho0 (kH (zP HO181.out))) (kH (zP HO184.out))) (kP (zT HB.out GE178.out))); replace HO181 := zA (kE (zP HO181.out) (kC ho0) hb); replace HO184 := zA (kE (zP HO184.out) (kC ho0) hb); replace BK178 := zA (zB1 BK178.out hb); replace HB := zA (kQ (zT HB.out GE178.out) hb); (try clear hb); (try clear ho0)))
 go_loopg [7, 8, 9, 10] k (fun kq v7 v8 v9 v10 w' => ∃ (x7_1 : List Int) (x8_1 : List Int) (x9_1 : List Int) (x10_1 : Bool), v10 = .bool x10_1 ∧ Aside0 (spec_l05Meet.l0 kq x7_1 x8_1 x9_1 x10_1 a0_0 l0_1 = some r) ∧ Aside0 (kq ≤ k) ∧ Aside0 (Kd.R (Kd.int .i64) 2 w' w.heap.size (fun k_ => some k_ ≠ (v8 : Value).ownBlock ∧ some k_ ≠ (v9 : Value).ownBlock) v7 x7_1) ∧ Aside0 (Kd.R (Kd.int .i64) 2 w' w.heap.size (fun k_ => some k_ ≠ (v7 : Value).ownBlock ∧ some k_ ≠ (v9 : Value).ownBlock) v8 x8_1) ∧ Aside0 (Kd.R (Kd.int .i64) 2 w' w.heap.size (fun k_ => some k_ ≠ (v7 : Value).ownBlock ∧ some k_ ≠ (v8 : Value).ownBlock) v9 x9_1) ∧ Aside0 (w'.heap[gb178]? = some (.cells #[.int .i64 a0_0, (.slice A0_1 l0_1.length c0_1)] 29 (0, 0))) ∧ Aside0 (Below w.heap.size w w'))
 case atStart => exact ⟨(y179), (t182), (t185), (true), zs, H', ⟨Nat.le_refl _⟩, ⟨zPM HO181.out (fun _ hk => ⟨hk.1.2, hk.2⟩)⟩, ⟨zPM HO184.out (fun _ hk => ⟨hk.1.2, hk.2⟩)⟩, ⟨zPM HO187.out (fun _ hk => ⟨hk.1.2, hk.2⟩)⟩, ⟨zR BK178.out⟩, ⟨zT HB.out GE178.out⟩⟩
 case round =>
  clear H'
  try clear c1
  try clear c2
  try clear c8
  obtain ⟨x7_1, x8_1, x9_1, x10_1, rfl, HA, HK1, HO_7, HO_8, HO_9, BK178, HB⟩ := hrel
  cases gk with
  | zero => exact absurd HA.out (by simp [spec_l05Meet.l0])
  | succ k1 =>
   have H := HA.out
   clear HA
   simp only [spec_l05Meet.l0] at H
   by_cases c11 : x10_1 = true
   ·subst c11
    rw [if_pos rfl] at H
    have H' := zA H
    clear H
    go_wp2
    go_loopg [7, 8, 9, 10, 11] k1 (fun kq v7 v8 v9 v10 v11 w' => ∃ (x7_2 : List Int) (x8_2 : List Int) (x9_2 : List Int) (x10_2 : Bool) (x11_2 : Int), v10 = .bool x10_2 ∧ v11 = .int .i64 x11_2 ∧ Aside0 (spec_l05Meet.l1 kq x7_2 x8_2 x9_2 x10_2 x11_2 a0_0 l0_1 = some r) ∧ Aside0 (kq ≤ k1) ∧ Aside0 (Kd.R (Kd.int .i64) 2 w' w.heap.size (fun k_ => some k_ ≠ (v8 : Value).ownBlock ∧ some k_ ≠ (v9 : Value).ownBlock) v7 x7_2) ∧ Aside0 (Kd.R (Kd.int .i64) 2 w' w.heap.size (fun k_ => some k_ ≠ (v7 : Value).ownBlock ∧ some k_ ≠ (v9 : Value).ownBlock) v8 x8_2) ∧ Aside0 (Kd.R (Kd.int .i64) 2 w' w.heap.size (fun k_ => some k_ ≠ (v7 : Value).ownBlock ∧ some k_ ≠ (v8 : Value).ownBlock) v9 x9_2) ∧ Aside0 (w'.heap[gb178]? = some (.cells #[.int .i64 a0_0, (.slice A0_1 l0_1.length c0_1)] 29 (0, 0))) ∧ Aside0 (Below w.heap.size w w'))
    case atStart => exact ⟨(x7_1), (x8_1), (x9_1), (false), (0), zs, zs, H', ⟨Nat.le_refl _⟩, ⟨zP HO_7.out⟩, ⟨zP HO_8.out⟩, ⟨zP HO_9.out⟩, ⟨zR BK178.out⟩, ⟨zT HB.out GE178.out⟩⟩
    case round =>
     clear H'
     try clear c1
     try clear c2
     try clear c8
     try clear c11
     obtain ⟨x7_2, x8_2, x9_2, x10_2, x11_2, rfl, rfl, HA, HK2, HO_7, HO_8, HO_9, BK178, HB⟩ := hrel
     cases gk with
     | zero => exact absurd HA.out (by simp [spec_l05Meet.l1])
     | succ k2 =>
      have H := HA.out
      clear HA
      simp only [spec_l05Meet.l1] at H
      by_cases c12 : x11_2 < a0_0
      ·rw [if_pos c12] at H
       have c12b0 : decide (x11_2 < a0_0) = true := decide_eq_true c12
       clear c12
       obtain ⟨t188, A13, H⟩ := zb H
       try dsimp only at H
       obtain ⟨t189, A14, H⟩ := zb H
       try dsimp only at H
       have HC15 := zA H
       clear H
       obtain ⟨hcz16_0, hcz16_1, hfz16_0, hfz16_1⟩ := zB3 BK178.out
       try go_wp2
       replace HO_7 := zA (zH HO_7.out)
       replace HO_8 := zA (zH HO_8.out)
       replace HO_9 := zA (zH HO_9.out)
       replace BK178 := zA (zK BK178.out)
       replace HB := zA (zD HB.out)
       obtain ⟨Ao18, co18, eo18⟩ := kM HO_8.out
       (first | subst eo18 | (injection eo18 with f1_ f2_ f3_; have f4_ := f1_.symm; have f5_ := f3_.symm; clear f1_ f2_ f3_; subst f4_; subst f5_))
       refine start_ (n := 10) (S := fun w' => w'.cell? ⟨gb178, 0, none⟩ = some (.int .i64 a0_0) ∧ w'.cell? ⟨gb178, 1, none⟩ = some (.slice A0_1 l0_1.length c0_1)) (ds := []) #[false, false, false, false, false, false, false, false, false, false] (by kernel_rfl) rfl rfl ⟨(kV BK178.out 0).trans rfl, (kV BK178.out 1).trans rfl⟩ (fun hHeld => ?_); refine with_tabW spec_l05Meet.tab8 spec_l05Meet.bits8 (fun HT_ HW_ => ?_)
       generalize wr.drew = w17 at HO_7 HO_8 HO_9 BK178 HB hHeld ⊢
       refine zp 1 (some 27) #[false, true, false, false, false, false, false, false, false, false] HT_.out ?_
       refine zp 2 (some 28) #[false, true, true, false, false, false, false, false, false, false] HT_.out ?_
       refine zp 5 (some 31) #[false, true, true, false, false, true, false, false, false, false] HT_.out ?_
       refine zp 6 (some 32) #[false, true, true, false, false, true, true, false, false, false] HT_.out ?_
       refine zc 0 (some 26) #[true, true, true, false, false, true, true, false, false, false] HT_.out HW_.out hHeld ?_
       refine zc 4 (some 30) #[true, true, true, false, true, true, true, false, false, false] HT_.out HW_.out hHeld ?_
       refine one_ (i := 3) (N := some 29) #[true, true, true, true, true, true, true, false, false, false] rfl rfl (one_of HT_.out (by kernel_rfl)) (by decide) (fun K hK => ?_)
       refine goes_ Tryd.func153 (by kernel_rfl) rfl #[.agg #[.int .i64 a0_0, .slice A0_1 l0_1.length c0_1], .slice Ao18 x8_2.length co18, .int .i64 x11_2] (by rfl) rfl rfl zg ?_
       with_reducible refine (spec_l03First.calls k2 a0_0 _ _ l0_1 _ _ x8_2 x11_2 t188 _ ?side1 ?side2 ?side3 ?side4 A13.out).mono ?_
       (case side1 => exact zS (kO HR0_1.out HB.out))
       (case side2 => exact HC0_1.out)
       (case side3 => exact zS (kB HO_8.out).2.2)
       (case side4 => exact (kB HO_8.out).2.1)
       rintro e w19 ⟨rfl, hb⟩
       refine ⟨_, rfl, ?_⟩
       replace HO_7 := zA (kL (zP HO_7.out) hb)
       replace HO_8 := zA (kL (zP HO_8.out) hb)
       replace HO_9 := zA (kL (zP HO_9.out) hb)
       replace BK178 := zA (zB1 BK178.out hb)
       replace HB := zA (kQ (zT HB.out GE178.out) hb)
       (try clear hb)
       (try clear hb2)
       (try clear hk)
       (try clear hi)
       (try clear hgw)
       obtain ⟨Ao20, co20, eo20⟩ := kM HO_9.out
       (first | subst eo20 | (injection eo20 with f1_ f2_ f3_; have f4_ := f1_.symm; have f5_ := f3_.symm; clear f1_ f2_ f3_; subst f4_; subst f5_))
       refine hK.out _ _ ⟨(kV BK178.out 0).trans rfl, (kV BK178.out 1).trans rfl⟩ (fun hHeld => ?_)
       clear hK K
       refine norm_ (a' := ?_) ?_ ?_
       rotate_left
       ·show Act.put _ (some 29) _ = _
        simp only [Act.put, zL, zM, zN, i64_w, i32_w]
        rfl
       refine one_ (i := 7) (N := some 33) #[true, true, true, true, true, true, true, true, false, false] rfl rfl (one_of HT_.out (by kernel_rfl)) (by decide) (fun K hK => ?_)
       refine goes_ Tryd.func153 (by kernel_rfl) rfl #[.agg #[.int .i64 a0_0, .slice A0_1 l0_1.length c0_1], .slice Ao20 x9_2.length co20, .int .i64 x11_2] (by rfl) rfl rfl zg ?_
       with_reducible refine (spec_l03First.calls k2 a0_0 _ _ l0_1 _ _ x9_2 x11_2 t189 _ ?side1 ?side2 ?side3 ?side4 A14.out).mono ?_
       (case side1 => exact zS (kO HR0_1.out HB.out))
       (case side2 => exact HC0_1.out)
       (case side3 => exact zS (kB HO_9.out).2.2)
       (case side4 => exact (kB HO_9.out).2.1)
       rintro e w21 ⟨rfl, hb⟩
       refine ⟨_, rfl, ?_⟩
       replace HO_7 := zA (kL (zP HO_7.out) hb)
       replace HO_8 := zA (kL (zP HO_8.out) hb)
       replace HO_9 := zA (kL (zP HO_9.out) hb)
       replace BK178 := zA (zB1 BK178.out hb)
       replace HB := zA (kQ (zT HB.out GE178.out) hb)
       (try clear hb)
       (try clear hb2)
       (try clear hk)
       (try clear hi)
       (try clear hgw)
       refine hK.out _ _ ⟨(kV BK178.out 0).trans rfl, (kV BK178.out 1).trans rfl⟩ (fun hHeld => ?_)
       clear hK K
       refine norm_ (a' := ?_) ?_ ?_
       rotate_left
       ·show Act.put _ (some 33) _ = _
        simp only [Act.put, zL, zM, zN, i64_w, i32_w]
        rfl
       refine zp 8 (some 12) #[true, true, true, true, true, true, true, true, true, false] HT_.out ?_
       refine zp 9 (some 13) #[true, true, true, true, true, true, true, true, true, true] HT_.out ?_
       refine done_ (done_of HT_.out (by kernel_rfl)) ?_
       go_upto_region 9 with (fail)
       go_cut [39] (fun v39 wc => ∃ (kq : Nat) (x39_14 : Bool), v39 = .bool x39_14 ∧ Aside0 (spec_l05Meet.j2 kq x7_2 x8_2 x9_2 x10_2 x11_2 t188 t189 x39_14 a0_0 l0_1 = some r) ∧ Aside0 (kq ≤ k2) ∧ Aside0 (Kd.R (Kd.int .i64) 2 wc w.heap.size (fun k_ => some k_ ≠ ((.slice Ao18 x8_2.length co18) : Value).ownBlock ∧ some k_ ≠ ((.slice Ao20 x9_2.length co20) : Value).ownBlock) u7 x7_2) ∧ Aside0 (Kd.R (Kd.int .i64) 2 wc w.heap.size (fun k_ => some k_ ≠ (u7 : Value).ownBlock ∧ some k_ ≠ ((.slice Ao20 x9_2.length co20) : Value).ownBlock) (.slice Ao18 x8_2.length co18) x8_2) ∧ Aside0 (Kd.R (Kd.int .i64) 2 wc w.heap.size (fun k_ => some k_ ≠ (u7 : Value).ownBlock ∧ some k_ ≠ ((.slice Ao18 x8_2.length co18) : Value).ownBlock) (.slice Ao20 x9_2.length co20) x9_2) ∧ Aside0 (wc.heap[gb178]? = some (.cells #[.int .i64 a0_0, (.slice A0_1 l0_1.length c0_1)] 29 (0, 0))) ∧ Aside0 (Below w.heap.size w wc))
       case first =>
        have H := HC15.out
        clear HC15
        by_cases c22 : t188 ≥ 0
        ·rw [if_pos c22] at H
         have c22b0 : decide (0 ≤ t188) = true := decide_eq_true c22
         clear c22
         (first | rw [c22b0] | (simp only [i64_w, i32_w]; rw [c22b0]) | skip)
         have H' := zA H
         clear H
         go_wp2
         go_meet
         case rel => exact ⟨_, (decide (t189 ≥ 0)), zs, H', ⟨by have := HK1.out; have := HK2.out; first | omega | exact Nat.le_refl _⟩, ⟨zP HO_7.out⟩, ⟨zP HO_8.out⟩, ⟨zP HO_9.out⟩, ⟨zR BK178.out⟩, ⟨zT HB.out GE178.out⟩⟩
        rw [if_neg c22] at H
        have c22b0 : decide (0 ≤ t188) = false := decide_eq_false c22
        clear c22
        (first | rw [c22b0] | (simp only [i64_w, i32_w]; rw [c22b0]) | skip)
        have H' := zA H
        clear H
        go_wp2
        go_meet
        case rel => exact ⟨_, (false), zs, H', ⟨by have := HK1.out; have := HK2.out; first | omega | exact Nat.le_refl _⟩, ⟨zP HO_7.out⟩, ⟨zP HO_8.out⟩, ⟨zP HO_9.out⟩, ⟨zR BK178.out⟩, ⟨zT HB.out GE178.out⟩⟩
       case rest =>
        clear HC15
        try clear c1
        try clear c2
        try clear c8
        try clear c11
        try clear c12
        try clear c15
        try clear c22
        try clear hcz16_0
        try clear hcz16_1
        try clear hfz16_0
        try clear hfz16_1
        obtain ⟨kq, x39_14, rfl, HA, HJ14, HO_7, HO_8, HO_9, BK178, HB⟩ := hcut
        cases kq with
        | zero => exact absurd HA.out (by simp [spec_l05Meet.j2])
        | succ kj14 =>
         have H := HA.out
         clear HA
         simp only [spec_l05Meet.j2] at H
         by_cases c23 : x39_14 = true
         ·subst c23
          rw [if_pos rfl] at H
          by_cases c24 : x7_2.length < 17592186044416
          ·rw [if_pos c24] at H
           have LMc24 := zA c24
           clear c24
           obtain ⟨y190, hy190⟩ : ∃ y_ : List Int, y_ = (x7_2 ++ [x11_2]) := ⟨_, rfl⟩
           replace H : ((spec_l03Without.f x8_2 t188).bind fun t193 => ((spec_l03Without.f x9_2 t189).bind fun t196 => (spec_l05Meet.l1 kj14 y190 t193 t196 true (wrap64 (x11_2 + 1)) a0_0 l0_1))) = some r := zy hy190 H
           have Ny190 := zA hy190
           clear hy190
           obtain ⟨t193, A25, H⟩ := zb H
           try dsimp only at H
           obtain ⟨t196, A26, H⟩ := zb H
           try dsimp only at H
           have H' := zA H
           clear H
           go_wp2_with (first | ((with_reducible refine gate_builtin (b := .append) (xs := #[.tmp 40, .tmp 42]) rfl ?_); at_builtin; refine Kd.R_append (Kd.int .i64) (w0 := w) w.heap.size rfl (.tmp 40) (.tmp 42) 22 2 (.int .i64 0) 8 rfl Tryd.underlying22 info2 rfl (by decide) (by omega) u7 x7_2 x11_2 [.int .i64 x11_2] (fun k_ => some k_ ≠ (.slice Ao18 x8_2.length co18 : Value).ownBlock ∧ some k_ ≠ (.slice Ao20 x9_2.length co20 : Value).ownBlock) (fun _ => False) rfl rfl ?aP (fun _ hk => hk.elim) ?aF ?aO ?aB ?aS ?aL ?_; (case aP => exact rfl); (case aB => exact (zT HB.out GE178.out)); (case aF => exact (fun k_ hk => ⟨jF (kH (zP HO_8.out)) k_ hk, jF (kH (zP HO_9.out)) k_ hk⟩)); (case aO => exact (zP HO_7.out)); (case aS => exact (kP (zT HB.out GE178.out))); (case aL => have := LMc24.out; omega); intro v191 w27 ho hb hg hat; rw [← Ny190.out] at ho; replace HO_8 := zA (Kd.R_after (ok := (fun k_ => some k_ ≠ (.slice Ao20 x9_2.length co20 : Value).ownBlock)) (by (with_reducible repeat (first | apply zF | apply zG | apply zH)); exact kA HO_8.out (fun _ hk => ⟨hk.2, hk.1⟩)) hg hat); replace HO_9 := zA (Kd.R_after (ok := (fun k_ => some k_ ≠ (.slice Ao18 x8_2.length co18 : Value).ownBlock)) (by (with_reducible repeat (first | apply zF | apply zG | apply zH)); exact kA HO_9.out (fun _ hk => ⟨hk.2, hk.1⟩)) hg hat); replace BK178 := zA (blk_grown (g := gb178) (o := .cells #[.int .i64 a0_0, .slice A0_1 l0_1.length c0_1] 29 (0, 0)) (zR BK178.out) hg (Kd.R_ne HO_7.out BK178.out (by decide))); replace HB := zA (hb); have HO192 := zA (ho); clear HO_7; clear ho hb hg hat) | (refine zO (some 46) Tryd.func154 #[.slice Ao18 x8_2.length co18, .int .i64 t188] ?_; (with_reducible refine (spec_l03Without.calls _ _ x8_2 t188 t193 _ ?side1 ?side2 A25.out).mono ?_); (case side1 => exact zS (kB HO_8.out).2.2); (case side2 => exact (kB HO_8.out).2.1); rintro e w28 ⟨v194, rfl, ho0, hb⟩; refine ⟨_, rfl, ?_⟩; have HO195 := zA (kI (kF (kF (kF ho0 (kH (zP HO_8.out))) (kH (zP HO_9.out))) (kH (zP HO192.out))) (kP (zT HB.out GE178.out))); replace HO_8 := zA (kE (zP HO_8.out) (kC ho0) hb); replace HO_9 := zA (kE (zP HO_9.out) (kC ho0) hb); replace HO192 := zA (kE (zP HO192.out) (kC ho0) hb); replace BK178 := zA (zB1 BK178.out hb); replace HB := zA (kQ (zT HB.out GE178.out) hb); (try clear hb); (try clear ho0)) | (refine zO (some 49) Tryd.func154 #[.slice Ao20 x9_2.length co20, .int .i64 t189] ?_; (with_reducible refine (spec_l03Without.calls _ _ x9_2 t189 t196 _ ?side1 ?side2 A26.out).mono ?_); (case side1 => exact zS (kB HO_9.out).2.2); (case side2 => exact (kB HO_9.out).2.1); rintro e w29 ⟨v197, rfl, ho0, hb⟩; refine ⟨_, rfl, ?_⟩; have HO198 := zA (kI (kF (kF (kF (kF ho0 (kH (zP HO_8.out))) (kH (zP HO_9.out))) (kH (zP HO192.out))) (kH (zP HO195.out))) (kP (zT HB.out GE178.out))); replace HO_8 := zA (kE (zP HO_8.out) (kC ho0) hb); replace HO_9 := zA (kE (zP HO_9.out) (kC ho0) hb); replace HO192 := zA (kE (zP HO192.out) (kC ho0) hb); replace HO195 := zA (kE (zP HO195.out) (kC ho0) hb); replace BK178 := zA (zB1 BK178.out hb); replace HB := zA (kQ (zT HB.out GE178.out) hb); (try clear hb); (try clear ho0)))
           go_roundg kj14
           case measure => have := HK1.out; have := HK2.out; have := HJ14.out; omega
           case rel => exact ⟨(y190), (t193), (t196), (true), (wrap64 (x11_2 + 1)), zs, zs, H', ⟨by have := HK1.out; have := HK2.out; have := HJ14.out; omega⟩, ⟨zPM HO192.out (fun _ hk => ⟨hk.1.2, hk.2⟩)⟩, ⟨zPM HO195.out (fun _ hk => ⟨hk.1.2, hk.2⟩)⟩, ⟨zPM HO198.out (fun _ hk => ⟨hk.1.2, hk.2⟩)⟩, ⟨zR BK178.out⟩, ⟨zT HB.out GE178.out⟩⟩
          rw [if_neg c24] at H
          exact absurd H (by simp)
         replace c23 := Bool.eq_false_iff.mpr c23
         subst c23
         rw [if_neg (show ¬ (false = true) by decide)] at H
         have H' := zA H
         clear H
         go_wp2
         go_roundg kj14
         case measure => have := HK1.out; have := HK2.out; have := HJ14.out; omega
         case rel => exact ⟨(x7_2), (x8_2), (x9_2), (x10_2), (wrap64 (x11_2 + 1)), zs, zs, H', ⟨by have := HK1.out; have := HK2.out; have := HJ14.out; omega⟩, ⟨zP HO_7.out⟩, ⟨zP HO_8.out⟩, ⟨zP HO_9.out⟩, ⟨zR BK178.out⟩, ⟨zT HB.out GE178.out⟩⟩
      rw [if_neg c12] at H
      have c12b0 : decide (x11_2 < a0_0) = false := decide_eq_false c12
      clear c12
      have H' := zA H
      clear H
      obtain ⟨hcz30_0, hcz30_1, hfz30_0, hfz30_1⟩ := zB3 BK178.out
      go_wp2
      go_roundg k2
      case measure => have := HK1.out; have := HK2.out; omega
      case rel => exact ⟨(x7_2), (x8_2), (x9_2), (x10_2), zs, H', ⟨by have := HK1.out; have := HK2.out; omega⟩, ⟨zP HO_7.out⟩, ⟨zP HO_8.out⟩, ⟨zP HO_9.out⟩, ⟨zR BK178.out⟩, ⟨zT HB.out GE178.out⟩⟩
   replace c11 := Bool.eq_false_iff.mpr c11
   subst c11
   rw [if_neg (show ¬ (false = true) by decide)] at H
   obtain rfl := Option.some.inj H
   go_wp2
   go_ret
   exact ⟨_, zr, by (with_reducible repeat (first | apply zF | apply zG | apply zH)); exact kA HO_7.out (fun _ hk => trivial), zT HB.out GE178.out⟩

/-! ### spec_l05Cut: function 82 -/
def spec_l05Cut.l0 : Nat → List Int → List Int → Int → Int → List Int → Option (List Int × Bool)
 | 0, _, _, _, _, _ => none
 | k + 1, x1, x8, x9, x200000, x200001 => if x9 < (x1.length : Int) then (if 0 ≤ x9 then ((spec_l03First.f k x200000 x200001 x8 (rd x1 x9)).bind fun t204 => (if t204 < 0 then (some (([] : List Int), false)) else ((spec_l03Without.f x8 t204).bind fun t205 => (spec_l05Cut.l0 k x1 t205 (wrap64 (x9 + 1)) x200000 x200001)))) else (none)) else (some (x8, true))
def spec_l05Cut.f (k : Nat) (a0_0 : Int) (l0_1 : List Int) (l1 : List Int) (l2 : List Int) : Option (List Int × Bool) := (spec_l01Own.f l2).bind fun t200 => (spec_l05Cut.l0 k l1 t200 0 a0_0 l0_1)

def spec_l05Cut.T5 : Bool × List (List Nat × List Nat) := (true, [([], []), ([], []), ([], []), ([], []), ([2, 3], [2, 3]), ([4], [4]), ([0, 1, 5], [0, 1, 5]), ([6, 6, 0, 1, 2, 3, 4, 5, 6], [6])])
def spec_l05Cut.B5 : List Nat := [0, 0, 0, 0, 12, 28, 63, 127]
theorem spec_l05Cut.tab5 : rtab .any (opsOf Tryd.f82 5) = spec_l05Cut.T5 := by kernel_rfl
theorem spec_l05Cut.bits5 : waitsOk spec_l05Cut.T5.2 spec_l05Cut.B5 = true := by kernel_rfl
set_option maxHeartbeats 8000000 in
set_option maxRecDepth 100000 in
theorem spec_l05Cut.calls (k : Nat) (a0_0 : Int) (A0_1 : Option Addr) (c0_1 : Nat) (l0_1 : List Int) (A1 : Option Addr) (c1 : Nat) (l1 : List Int) (A2 : Option Addr) (c2 : Nat) (l2 : List Int) (r1 : List Int) (r2 : Bool) (w : World) (hr0_1 : Kd.C (Kd.int .i64) w A0_1 l0_1.length l0_1) (hc0_1 : l0_1.length ≤ c0_1) (hr1 : Kd.C (Kd.int .i64) w A1 l1.length l1) (hc1 : l1.length ≤ c1) (hr2 : Kd.C (Kd.int .i64) w A2 l2.length l2) (hc2 : l2.length ≤ c2) (h : spec_l05Cut.f k a0_0 l0_1 l1 l2 = some (r1, r2)) :
  Calls Tryd.prog 82 #[.agg #[.int .i64 a0_0, .slice A0_1 l0_1.length c0_1], .slice A1 l1.length c1, .slice A2 l2.length c2] w fun e w' => ∃ v0_ : Value, e = .returned (.tuple #[v0_, .bool r2]) ∧ Kd.R (Kd.int .i64) 2 w' w.heap.size (fun _ => True) v0_ r1 ∧ Below w.heap.size w w' := by
 have hu29 := Tryd.underlying29
 have HR0_1 := zA hr0_1
 have HC0_1 := zA hc0_1
 clear hr0_1 hc0_1
 have HR1 := zA hr1
 have HC1 := zA hc1
 clear hr1 hc1
 have HR2 := zA hr2
 have HC2 := zA hc2
 clear hr2 hc2
 have HB := zA (kW w.heap.size w)
 have H := h
 unfold spec_l05Cut.f at H
 clear h
 obtain ⟨t200, A4, H⟩ := zb H
 try dsimp only at H
 have H' := zA H
 clear H
 go_enter Tryd.func82, Tryd.ntmps82
 go_wp2_with (first | (refine zBE 3 #[.int .i64 a0_0, .slice A0_1 l0_1.length c0_1] 29 ?_; intro gb199 hg w5 hbox hb; have BK199 := zA (hbox); have GW199 := zA (zBH hg HB.out); have GE199 := zA (zBH hg HB.out); replace HB := zA (kQ (zQ HB.out) hb); clear hb hbox hg) | (refine zO (some 12) Tryd.func80 #[.slice A2 l2.length c2] ?_; (with_reducible refine (spec_l01Own.calls _ _ l2 t200 _ ?side1 ?side2 A4.out).mono ?_); (case side1 => exact zS (kO HR2.out HB.out)); (case side2 => exact HC2.out); rintro e w6 ⟨v201, rfl, ho0, hb⟩; refine ⟨_, rfl, ?_⟩; have HO202 := zA (kI ho0 (kP (zT HB.out GE199.out))); replace BK199 := zA (zB1 BK199.out hb); replace HB := zA (kQ (zT HB.out GE199.out) hb); (try clear hb); (try clear ho0)))
 go_loopg [8, 9] k (fun kq v8 v9 w' => ∃ (x8_1 : List Int) (x9_1 : Int), v9 = .int .i64 x9_1 ∧ Aside0 (spec_l05Cut.l0 kq l1 x8_1 x9_1 a0_0 l0_1 = some (r1, r2)) ∧ Aside0 (kq ≤ k) ∧ Aside0 (Kd.R (Kd.int .i64) 2 w' w.heap.size (fun _ => True) v8 x8_1) ∧ Aside0 (w'.heap[gb199]? = some (.cells #[.int .i64 a0_0, (.slice A0_1 l0_1.length c0_1)] 29 (0, 0))) ∧ Aside0 (Below w.heap.size w w'))
 case atStart => exact ⟨(t200), (0), zs, H', ⟨Nat.le_refl _⟩, ⟨zP HO202.out⟩, ⟨zR BK199.out⟩, ⟨zT HB.out GE199.out⟩⟩
 case round =>
  clear H'
  try clear c1
  try clear c2
  obtain ⟨x8_1, x9_1, rfl, HA, HK1, HO_8, BK199, HB⟩ := hrel
  cases gk with
  | zero => exact absurd HA.out (by simp [spec_l05Cut.l0])
  | succ k1 =>
   have H := HA.out
   clear HA
   simp only [spec_l05Cut.l0] at H
   by_cases c7 : x9_1 < (l1.length : Int)
   ·rw [if_pos c7] at H
    have c7b0 : decide (x9_1 < (l1.length : Int)) = true := decide_eq_true c7
    clear c7
    by_cases c8 : 0 ≤ x9_1
    ·rw [if_pos c8] at H
     have c8b0 : decide (0 ≤ x9_1) = true := decide_eq_true c8
     clear c8
     obtain ⟨t204, A9, H⟩ := zb H
     try dsimp only at H
     by_cases c10 : t204 < 0
     ·rw [if_pos c10] at H
      have c10b0 : decide (t204 < 0) = true := decide_eq_true c10
      clear c10
      simp only [Option.some.injEq, Prod.mk.injEq] at H
      obtain ⟨rfl, rfl⟩ := H
      try go_wp2
      replace HO_8 := zA (zH HO_8.out)
      replace BK199 := zA (zK BK199.out)
      replace HB := zA (zD HB.out)
      have p203 : 0 ≤ (x9_1 : Int) := zd
      have q203 : x9_1 < (l1.length : Int) := zd
      obtain ⟨ad203, e203, hx203_0⟩ := Kd.at_int HR1.out x9_1 p203 q203
      have hw203_0 := hx203_0
      cases e203
      replace hx203_0 := (HB.out.cell (jG w _ hx203_0)).trans hx203_0
      replace p203 := eq_true p203
      replace q203 := eq_true q203
      obtain ⟨Ao12, co12, eo12⟩ := kM HO_8.out
      (first | subst eo12 | (injection eo12 with f1_ f2_ f3_; have f4_ := f1_.symm; have f5_ := f3_.symm; clear f1_ f2_ f3_; subst f4_; subst f5_))
      refine start_ (n := 8) (S := fun w' => w'.cell? ⟨gb199, 0, none⟩ = some (.int .i64 a0_0) ∧ w'.cell? ⟨gb199, 1, none⟩ = some (.slice A0_1 l0_1.length c0_1) ∧ w'.cell? (ad203.add (x9_1).toNat) = some (.int .i64 (rd l1 x9_1))) (ds := []) #[false, false, false, false, false, false, false, false] (by kernel_rfl) rfl rfl ⟨(kV BK199.out 0).trans rfl, (kV BK199.out 1).trans rfl, (pw_cell_below HB.out hw203_0)⟩ (fun hHeld => ?_); refine with_tabW spec_l05Cut.tab5 spec_l05Cut.bits5 (fun HT_ HW_ => ?_)
      generalize wr.drew = w11 at HO_8 BK199 HB hx203_0 hHeld ⊢
      refine zp 1 (some 20) #[false, true, false, false, false, false, false, false] HT_.out ?_
      refine zp 2 (some 21) #[false, true, true, false, false, false, false, false] HT_.out ?_
      refine zp 3 (some 22) #[false, true, true, true, false, false, false, false] HT_.out ?_
      refine zp 4 (some 23) #[false, true, true, true, true, false, false, false] HT_.out ?_
      refine ze 0 (some 19) #[true, true, true, true, true, false, false, false] HT_.out HW_.out hHeld ?_
      refine ze 5 (some 24) #[true, true, true, true, true, true, false, false] HT_.out HW_.out hHeld ?_
      refine one_ (i := 6) (N := some 25) #[true, true, true, true, true, true, true, false] rfl rfl (one_of HT_.out (by kernel_rfl)) (by decide) (fun K hK => ?_)
      refine goes_ Tryd.func153 (by kernel_rfl) rfl #[.agg #[.int .i64 a0_0, .slice A0_1 l0_1.length c0_1], .slice Ao12 x8_1.length co12, .int .i64 (rd l1 x9_1)] (by rfl) rfl rfl zg ?_
      with_reducible refine (spec_l03First.calls k1 a0_0 _ _ l0_1 _ _ x8_1 (rd l1 x9_1) t204 _ ?side1 ?side2 ?side3 ?side4 A9.out).mono ?_
      (case side1 => exact zS (kO HR0_1.out HB.out))
      (case side2 => exact HC0_1.out)
      (case side3 => exact zS (kB HO_8.out).2.2)
      (case side4 => exact (kB HO_8.out).2.1)
      rintro e w13 ⟨rfl, hb⟩
      refine ⟨_, rfl, ?_⟩
      replace HO_8 := zA (kL (zP HO_8.out) hb)
      replace BK199 := zA (zB1 BK199.out hb)
      replace HB := zA (kQ (zT HB.out GE199.out) hb)
      (try clear hb)
      (try clear hb2)
      (try clear hk)
      (try clear hi)
      (try clear hgw)
      refine hK.out _ _ ⟨(kV BK199.out 0).trans rfl, (kV BK199.out 1).trans rfl, (pw_cell_below HB.out hw203_0)⟩ (fun hHeld => ?_)
      clear hK K
      refine norm_ (a' := ?_) ?_ ?_
      rotate_left
      ·show Act.put _ (some 25) _ = _
       simp only [Act.put, zL, zM, zN, i64_w, i32_w]
       rfl
      refine zp 7 (some 10) #[true, true, true, true, true, true, true, true] HT_.out ?_
      refine done_ (done_of HT_.out (by kernel_rfl)) ?_
      try go_wp2
      go_ret2
      exact ⟨_, zr, zn, zT HB.out GE199.out⟩
     rw [if_neg c10] at H
     have c10b0 : decide (t204 < 0) = false := decide_eq_false c10
     clear c10
     obtain ⟨t205, A14, H⟩ := zb H
     try dsimp only at H
     have H' := zA H
     clear H
     try go_wp2
     replace HO_8 := zA (zH HO_8.out)
     replace BK199 := zA (zK BK199.out)
     replace HB := zA (zD HB.out)
     have p203 : 0 ≤ (x9_1 : Int) := zd
     have q203 : x9_1 < (l1.length : Int) := zd
     obtain ⟨ad203, e203, hx203_0⟩ := Kd.at_int HR1.out x9_1 p203 q203
     have hw203_0 := hx203_0
     cases e203
     replace hx203_0 := (HB.out.cell (jG w _ hx203_0)).trans hx203_0
     replace p203 := eq_true p203
     replace q203 := eq_true q203
     obtain ⟨Ao16, co16, eo16⟩ := kM HO_8.out
     (first | subst eo16 | (injection eo16 with f1_ f2_ f3_; have f4_ := f1_.symm; have f5_ := f3_.symm; clear f1_ f2_ f3_; subst f4_; subst f5_))
     refine start_ (n := 8) (S := fun w' => w'.cell? ⟨gb199, 0, none⟩ = some (.int .i64 a0_0) ∧ w'.cell? ⟨gb199, 1, none⟩ = some (.slice A0_1 l0_1.length c0_1) ∧ w'.cell? (ad203.add (x9_1).toNat) = some (.int .i64 (rd l1 x9_1))) (ds := []) #[false, false, false, false, false, false, false, false] (by kernel_rfl) rfl rfl ⟨(kV BK199.out 0).trans rfl, (kV BK199.out 1).trans rfl, (pw_cell_below HB.out hw203_0)⟩ (fun hHeld => ?_); refine with_tabW spec_l05Cut.tab5 spec_l05Cut.bits5 (fun HT_ HW_ => ?_)
     generalize wr.drew = w15 at HO_8 BK199 HB hx203_0 hHeld ⊢
     refine zp 1 (some 20) #[false, true, false, false, false, false, false, false] HT_.out ?_
     refine zp 2 (some 21) #[false, true, true, false, false, false, false, false] HT_.out ?_
     refine zp 3 (some 22) #[false, true, true, true, false, false, false, false] HT_.out ?_
     refine zp 4 (some 23) #[false, true, true, true, true, false, false, false] HT_.out ?_
     refine ze 0 (some 19) #[true, true, true, true, true, false, false, false] HT_.out HW_.out hHeld ?_
     refine ze 5 (some 24) #[true, true, true, true, true, true, false, false] HT_.out HW_.out hHeld ?_
     refine one_ (i := 6) (N := some 25) #[true, true, true, true, true, true, true, false] rfl rfl (one_of HT_.out (by kernel_rfl)) (by decide) (fun K hK => ?_)
     refine goes_ Tryd.func153 (by kernel_rfl) rfl #[.agg #[.int .i64 a0_0, .slice A0_1 l0_1.length c0_1], .slice Ao16 x8_1.length co16, .int .i64 (rd l1 x9_1)] (by rfl) rfl rfl zg ?_
     with_reducible refine (spec_l03First.calls k1 a0_0 _ _ l0_1 _ _ x8_1 (rd l1 x9_1) t204 _ ?side1 ?side2 ?side3 ?side4 A9.out).mono ?_
     (case side1 => exact zS (kO HR0_1.out HB.out))
     (case side2 => exact HC0_1.out)
     (case side3 => exact zS (kB HO_8.out).2.2)
     (case side4 => exact (kB HO_8.out).2.1)
     rintro e w17 ⟨rfl, hb⟩
     refine ⟨_, rfl, ?_⟩
     replace HO_8 := zA (kL (zP HO_8.out) hb)
     replace BK199 := zA (zB1 BK199.out hb)
     replace HB := zA (kQ (zT HB.out GE199.out) hb)
     (try clear hb)
     (try clear hb2)
     (try clear hk)
     (try clear hi)
     (try clear hgw)
     refine hK.out _ _ ⟨(kV BK199.out 0).trans rfl, (kV BK199.out 1).trans rfl, (pw_cell_below HB.out hw203_0)⟩ (fun hHeld => ?_)
     clear hK K
     refine norm_ (a' := ?_) ?_ ?_
     rotate_left
     ·show Act.put _ (some 25) _ = _
      simp only [Act.put, zL, zM, zN, i64_w, i32_w]
      rfl
     refine zp 7 (some 10) #[true, true, true, true, true, true, true, true] HT_.out ?_
     refine done_ (done_of HT_.out (by kernel_rfl)) ?_
     try go_wp2_with (first | (refine zO (some 30) Tryd.func154 #[.slice Ao16 x8_1.length co16, .int .i64 t204] ?_; (with_reducible refine (spec_l03Without.calls _ _ x8_1 t204 t205 _ ?side1 ?side2 A14.out).mono ?_); (case side1 => exact zS (kB HO_8.out).2.2); (case side2 => exact (kB HO_8.out).2.1); rintro e w18 ⟨v206, rfl, ho0, hb⟩; refine ⟨_, rfl, ?_⟩; have HO207 := zA (kI (kF ho0 (kH (zP HO_8.out))) (kP (zT HB.out GE199.out))); replace HO_8 := zA (kE (zP HO_8.out) (kC ho0) hb); replace BK199 := zA (zB1 BK199.out hb); replace HB := zA (kQ (zT HB.out GE199.out) hb); (try clear hb); (try clear ho0)))
     go_roundg k1
     case measure => have := HK1.out; omega
     case rel => exact ⟨(t205), (wrap64 (x9_1 + 1)), zs, H', ⟨by have := HK1.out; omega⟩, ⟨zPM HO207.out (fun _ hk => trivial)⟩, ⟨zR BK199.out⟩, ⟨zT HB.out GE199.out⟩⟩
    rw [if_neg c8] at H
    exact absurd H (by simp)
   rw [if_neg c7] at H
   have c7b0 : decide (x9_1 < (l1.length : Int)) = false := decide_eq_false c7
   clear c7
   simp only [Option.some.injEq, Prod.mk.injEq] at H
   obtain ⟨rfl, rfl⟩ := H
   go_wp2
   go_ret2
   exact ⟨_, zr, zP HO_8.out, zT HB.out GE199.out⟩

/-! ### spec_l03Normal: function 83 -/
mutual
def spec_l03Normal.l0 : Nat → List Int → List Int → Int → List Int → Option (List Int)
 | 0, _, _, _, _ => none
 | k + 1, x5, x6, x209000, x209001 => if (x6.length : Int) > 0 then (spec_l03Normal.l1 k x5 x6 0 x209000 x209001) else (some x5)
def spec_l03Normal.l1 : Nat → List Int → List Int → Int → Int → List Int → Option (List Int)
 | 0, _, _, _, _, _ => none
 | k + 1, x5, x6, x7, x209000, x209001 => if x7 < x209000 then ((spec_l03First.f k x209000 x209001 x6 x7).bind fun t215 => (if t215 ≥ 0 then (if x5.length < 17592186044416 then ((spec_l03Without.f x6 t215).bind fun t219 => (spec_l03Normal.l0 k (x5 ++ [x7]) t219 x209000 x209001)) else (none)) else (spec_l03Normal.l1 k x5 x6 (wrap64 (x7 + 1)) x209000 x209001))) else (spec_l03Normal.l0 k x5 x6 x209000 x209001)
end
def spec_l03Normal.f (k : Nat) (a0_0 : Int) (l0_1 : List Int) (l1 : List Int) : Option (List Int) := (spec_l01Own.f l1).bind fun t212 => (spec_l03Normal.l0 k (([] : List Int)) t212 a0_0 l0_1)

set_option maxHeartbeats 8000000 in
set_option maxRecDepth 100000 in
theorem spec_l03Normal.calls (k : Nat) (a0_0 : Int) (A0_1 : Option Addr) (c0_1 : Nat) (l0_1 : List Int) (A1 : Option Addr) (c1 : Nat) (l1 : List Int) (r : List Int) (w : World) (hr0_1 : Kd.C (Kd.int .i64) w A0_1 l0_1.length l0_1) (hc0_1 : l0_1.length ≤ c0_1) (hr1 : Kd.C (Kd.int .i64) w A1 l1.length l1) (hc1 : l1.length ≤ c1) (h : spec_l03Normal.f k a0_0 l0_1 l1 = some r) :
  Calls Tryd.prog 83 #[.agg #[.int .i64 a0_0, .slice A0_1 l0_1.length c0_1], .slice A1 l1.length c1] w fun e w' => ∃ v0_ : Value, e = .returned (v0_) ∧ Kd.R (Kd.int .i64) 2 w' w.heap.size (fun _ => True) v0_ r ∧ Below w.heap.size w w' := by
 have hu29 := Tryd.underlying29
 have HR0_1 := zA hr0_1
 have HC0_1 := zA hc0_1
 clear hr0_1 hc0_1
 have HR1 := zA hr1
 have HC1 := zA hc1
 clear hr1 hc1
 have HB := zA (kW w.heap.size w)
 have H := h
 unfold spec_l03Normal.f at H
 clear h
 obtain ⟨y209, hy209⟩ : ∃ y_ : List Int, y_ = (([] : List Int)) := ⟨_, rfl⟩
 replace H : ((spec_l01Own.f l1).bind fun t212 => (spec_l03Normal.l0 k y209 t212 a0_0 l0_1)) = some r := zy hy209 H
 have Ny209 := zA hy209
 clear hy209
 obtain ⟨t212, A3, H⟩ := zb H
 try dsimp only at H
 have H' := zA H
 clear H
 go_enter Tryd.func83, Tryd.ntmps83
 go_wp2_with (first | (refine zBE 2 #[.int .i64 a0_0, .slice A0_1 l0_1.length c0_1] 29 ?_; intro gb208 hg w4 hbox hb; have BK208 := zA (hbox); have GW208 := zA (zBH hg HB.out); have GE208 := zA (zBH hg HB.out); replace HB := zA (kQ (zQ HB.out) hb); clear hb hbox hg) | ((with_reducible refine kS (N := 9) rfl ?_); refine Kd.R_lit (Kd.int .i64) _ 2 ?hg (N := 9) ?hd (xs := ([] : List Int)) (inner := []) (ok := fun _ => True) (okp := fun _ => True) ?hr ?hp (fun _ hk => hk) trivial (kW _ _) (Nat.le_refl _) (by simp) ?_; (case hd => rfl); (case hg => rfl); (case hr => first | (go_simp; done) | (go_simp; rfl)); (case hp => exact (Reps.none _ _)); intro v210 w5 ho6 hb hg_ hnew_; clear hg_ hnew_; (first | rw [← Ny209.out] at ho6 | (simp only [Int.reduceToNat] at ho6; rw [← Ny209.out] at ho6)); have HO211 := zA (kI ho6 (kP (zT HB.out GE208.out))); replace BK208 := zA (zB1 BK208.out hb); replace HB := zA (kQ (zT HB.out GE208.out) hb); clear hb ho6) | (refine zO (some 11) Tryd.func80 #[.slice A1 l1.length c1] ?_; (with_reducible refine (spec_l01Own.calls _ _ l1 t212 _ ?side1 ?side2 A3.out).mono ?_); (case side1 => exact zS (kO HR1.out HB.out)); (case side2 => exact HC1.out); rintro e w7 ⟨v213, rfl, ho0, hb⟩; refine ⟨_, rfl, ?_⟩; have HO214 := zA (kI (kF ho0 (kH (zP HO211.out))) (kP (zT HB.out GE208.out))); replace HO211 := zA (kE (zP HO211.out) (kC ho0) hb); replace BK208 := zA (zB1 BK208.out hb); replace HB := zA (kQ (zT HB.out GE208.out) hb); (try clear hb); (try clear ho0)))
 go_loopg [5, 6] k (fun kq v5 v6 w' => ∃ (x5_1 : List Int) (x6_1 : List Int), Aside0 (spec_l03Normal.l0 kq x5_1 x6_1 a0_0 l0_1 = some r) ∧ Aside0 (kq ≤ k) ∧ Aside0 (Kd.R (Kd.int .i64) 2 w' w.heap.size (fun k_ => some k_ ≠ (v6 : Value).ownBlock) v5 x5_1) ∧ Aside0 (Kd.R (Kd.int .i64) 2 w' w.heap.size (fun k_ => some k_ ≠ (v5 : Value).ownBlock) v6 x6_1) ∧ Aside0 (w'.heap[gb208]? = some (.cells #[.int .i64 a0_0, (.slice A0_1 l0_1.length c0_1)] 29 (0, 0))) ∧ Aside0 (Below w.heap.size w w'))
 case atStart => exact ⟨(y209), (t212), H', ⟨Nat.le_refl _⟩, ⟨zPM HO211.out (fun _ hk => hk.2)⟩, ⟨zPM HO214.out (fun _ hk => hk.2)⟩, ⟨zR BK208.out⟩, ⟨zT HB.out GE208.out⟩⟩
 case round =>
  clear H'
  try clear c1
  obtain ⟨x5_1, x6_1, HA, HK1, HO_5, HO_6, BK208, HB⟩ := hrel
  cases gk with
  | zero => exact absurd HA.out (by simp [spec_l03Normal.l0])
  | succ k1 =>
   have H := HA.out
   clear HA
   simp only [spec_l03Normal.l0] at H
   by_cases c8 : (x6_1.length : Int) > 0
   ·rw [if_pos c8] at H
    have c8b0 : decide (0 < (x6_1.length : Int)) = true := decide_eq_true c8
    have c8b1 : decide (0 < x6_1.length) = true := decide_eq_true (by omega)
    clear c8
    have H' := zA H
    clear H
    obtain ⟨Ao9, co9, eo9⟩ := kM HO_6.out
    subst eo9
    go_wp2
    go_loopg [5, 6, 7] k1 (fun kq v5 v6 v7 w' => ∃ (x5_2 : List Int) (x6_2 : List Int) (x7_2 : Int), v7 = .int .i64 x7_2 ∧ Aside0 (spec_l03Normal.l1 kq x5_2 x6_2 x7_2 a0_0 l0_1 = some r) ∧ Aside0 (kq ≤ k1) ∧ Aside0 (Kd.R (Kd.int .i64) 2 w' w.heap.size (fun k_ => some k_ ≠ (v6 : Value).ownBlock) v5 x5_2) ∧ Aside0 (Kd.R (Kd.int .i64) 2 w' w.heap.size (fun k_ => some k_ ≠ (v5 : Value).ownBlock) v6 x6_2) ∧ Aside0 (w'.heap[gb208]? = some (.cells #[.int .i64 a0_0, (.slice A0_1 l0_1.length c0_1)] 29 (0, 0))) ∧ Aside0 (Below w.heap.size w w'))
    case atStart => exact ⟨(x5_1), (x6_1), (0), zs, H', ⟨Nat.le_refl _⟩, ⟨zP HO_5.out⟩, ⟨zP HO_6.out⟩, ⟨zR BK208.out⟩, ⟨zT HB.out GE208.out⟩⟩
    case round =>
     clear H'
     try clear c1
     try clear c8
     obtain ⟨x5_2, x6_2, x7_2, rfl, HA, HK2, HO_5, HO_6, BK208, HB⟩ := hrel
     cases gk with
     | zero => exact absurd HA.out (by simp [spec_l03Normal.l1])
     | succ k2 =>
      have H := HA.out
      clear HA
      simp only [spec_l03Normal.l1] at H
      by_cases c10 : x7_2 < a0_0
      ·rw [if_pos c10] at H
       have c10b0 : decide (x7_2 < a0_0) = true := decide_eq_true c10
       clear c10
       obtain ⟨t215, A11, H⟩ := zb H
       try dsimp only at H
       by_cases c12 : t215 ≥ 0
       ·rw [if_pos c12] at H
        have c12b0 : decide (0 ≤ t215) = true := decide_eq_true c12
        clear c12
        by_cases c13 : x5_2.length < 17592186044416
        ·rw [if_pos c13] at H
         have LMc13 := zA c13
         clear c13
         obtain ⟨y216, hy216⟩ : ∃ y_ : List Int, y_ = (x5_2 ++ [x7_2]) := ⟨_, rfl⟩
         replace H : ((spec_l03Without.f x6_2 t215).bind fun t219 => (spec_l03Normal.l0 k2 y216 t219 a0_0 l0_1)) = some r := zy hy216 H
         have Ny216 := zA hy216
         clear hy216
         obtain ⟨t219, A14, H⟩ := zb H
         try dsimp only at H
         have H' := zA H
         clear H
         obtain ⟨hcz15_0, hcz15_1, hfz15_0, hfz15_1⟩ := zB3 BK208.out
         obtain ⟨Ao16, co16, eo16⟩ := kM HO_6.out
         subst eo16
         go_wp2_with (first | (refine zO (some 24) Tryd.func153 #[.agg #[.int .i64 a0_0, .slice A0_1 l0_1.length c0_1], .slice Ao16 x6_2.length co16, .int .i64 x7_2] ?_; (with_reducible refine (spec_l03First.calls k2 a0_0 _ _ l0_1 _ _ x6_2 x7_2 t215 _ ?side1 ?side2 ?side3 ?side4 A11.out).mono ?_); (case side1 => exact zS (kO HR0_1.out HB.out)); (case side2 => exact HC0_1.out); (case side3 => exact zS (kB HO_6.out).2.2); (case side4 => exact (kB HO_6.out).2.1); rintro e w17 ⟨rfl, hb⟩; refine ⟨_, rfl, ?_⟩; replace HO_5 := zA (kL (zP HO_5.out) hb); replace HO_6 := zA (kL (zP HO_6.out) hb); replace BK208 := zA (zB1 BK208.out hb); replace HB := zA (kQ (zT HB.out GE208.out) hb); (try clear hb)) | ((with_reducible refine gate_builtin (b := .append) (xs := #[.tmp 27, .tmp 29]) rfl ?_); at_builtin; refine Kd.R_append (Kd.int .i64) (w0 := w) w.heap.size rfl (.tmp 27) (.tmp 29) 22 2 (.int .i64 0) 8 rfl Tryd.underlying22 info2 rfl (by decide) (by omega) u5 x5_2 x7_2 [.int .i64 x7_2] (fun k_ => some k_ ≠ (.slice Ao16 x6_2.length co16 : Value).ownBlock) (fun _ => False) rfl rfl ?aP (fun _ hk => hk.elim) ?aF ?aO ?aB ?aS ?aL ?_; (case aP => exact rfl); (case aB => exact (zT HB.out GE208.out)); (case aF => exact (fun k_ hk => jF (kH (zP HO_6.out)) k_ hk)); (case aO => exact (zP HO_5.out)); (case aS => exact (kP (zT HB.out GE208.out))); (case aL => have := LMc13.out; omega); intro v217 w18 ho hb hg hat; rw [← Ny216.out] at ho; replace HO_6 := zA (Kd.R_after (ok := (fun _ => True)) (by (with_reducible repeat (first | apply zF | apply zG | apply zH)); exact kA HO_6.out (fun _ hk => ⟨trivial, hk⟩)) hg hat); replace BK208 := zA (blk_grown (g := gb208) (o := .cells #[.int .i64 a0_0, .slice A0_1 l0_1.length c0_1] 29 (0, 0)) (zR BK208.out) hg (Kd.R_ne HO_5.out BK208.out (by decide))); replace HB := zA (hb); have HO218 := zA (ho); clear HO_5; clear ho hb hg hat) | (refine zO (some 33) Tryd.func154 #[.slice Ao16 x6_2.length co16, .int .i64 t215] ?_; (with_reducible refine (spec_l03Without.calls _ _ x6_2 t215 t219 _ ?side1 ?side2 A14.out).mono ?_); (case side1 => exact zS (kB HO_6.out).2.2); (case side2 => exact (kB HO_6.out).2.1); rintro e w19 ⟨v220, rfl, ho0, hb⟩; refine ⟨_, rfl, ?_⟩; have HO221 := zA (kI (kF (kF ho0 (kH (zP HO_6.out))) (kH (zP HO218.out))) (kP (zT HB.out GE208.out))); replace HO_6 := zA (kE (zP HO_6.out) (kC ho0) hb); replace HO218 := zA (kE (zP HO218.out) (kC ho0) hb); replace BK208 := zA (zB1 BK208.out hb); replace HB := zA (kQ (zT HB.out GE208.out) hb); (try clear hb); (try clear ho0)))
         go_roundg k2
         case measure => have := HK1.out; have := HK2.out; omega
         case rel => exact ⟨(y216), (t219), H', ⟨by have := HK1.out; have := HK2.out; omega⟩, ⟨zPM HO218.out (fun _ hk => hk.2)⟩, ⟨zPM HO221.out (fun _ hk => hk.2)⟩, ⟨zR BK208.out⟩, ⟨zT HB.out GE208.out⟩⟩
        rw [if_neg c13] at H
        exact absurd H (by simp)
       rw [if_neg c12] at H
       have c12b0 : decide (0 ≤ t215) = false := decide_eq_false c12
       clear c12
       have H' := zA H
       clear H
       obtain ⟨hcz20_0, hcz20_1, hfz20_0, hfz20_1⟩ := zB3 BK208.out
       obtain ⟨Ao21, co21, eo21⟩ := kM HO_6.out
       subst eo21
       go_wp2_with (first | (refine zO (some 24) Tryd.func153 #[.agg #[.int .i64 a0_0, .slice A0_1 l0_1.length c0_1], .slice Ao21 x6_2.length co21, .int .i64 x7_2] ?_; (with_reducible refine (spec_l03First.calls k2 a0_0 _ _ l0_1 _ _ x6_2 x7_2 t215 _ ?side1 ?side2 ?side3 ?side4 A11.out).mono ?_); (case side1 => exact zS (kO HR0_1.out HB.out)); (case side2 => exact HC0_1.out); (case side3 => exact zS (kB HO_6.out).2.2); (case side4 => exact (kB HO_6.out).2.1); rintro e w22 ⟨rfl, hb⟩; refine ⟨_, rfl, ?_⟩; replace HO_5 := zA (kL (zP HO_5.out) hb); replace HO_6 := zA (kL (zP HO_6.out) hb); replace BK208 := zA (zB1 BK208.out hb); replace HB := zA (kQ (zT HB.out GE208.out) hb); (try clear hb)))
       go_roundg k2
       case measure => have := HK1.out; have := HK2.out; omega
       case rel => exact ⟨(x5_2), (x6_2), (wrap64 (x7_2 + 1)), zs, H', ⟨by have := HK1.out; have := HK2.out; omega⟩, ⟨zP HO_5.out⟩, ⟨zP HO_6.out⟩, ⟨zR BK208.out⟩, ⟨zT HB.out GE208.out⟩⟩
      rw [if_neg c10] at H
      have c10b0 : decide (x7_2 < a0_0) = false := decide_eq_false c10
      clear c10
      have H' := zA H
      clear H
      obtain ⟨hcz23_0, hcz23_1, hfz23_0, hfz23_1⟩ := zB3 BK208.out
      go_wp2
      go_roundg k2
      case measure => have := HK1.out; have := HK2.out; omega
      case rel => exact ⟨(x5_2), (x6_2), H', ⟨by have := HK1.out; have := HK2.out; omega⟩, ⟨zP HO_5.out⟩, ⟨zP HO_6.out⟩, ⟨zR BK208.out⟩, ⟨zT HB.out GE208.out⟩⟩
   rw [if_neg c8] at H
   have c8b0 : decide (0 < (x6_1.length : Int)) = false := decide_eq_false c8
   have c8b1 : decide (0 < x6_1.length) = false := decide_eq_false (by omega)
   clear c8
   obtain rfl := Option.some.inj H
   obtain ⟨Ao24, co24, eo24⟩ := kM HO_6.out
   subst eo24
   go_wp2
   go_ret
   exact ⟨_, zr, by (with_reducible repeat (first | apply zF | apply zG | apply zH)); exact kA HO_5.out (fun _ hk => trivial), zT HB.out GE208.out⟩

end Go.Proofs.YthgapkbkhoeleaaDoor.PAll
