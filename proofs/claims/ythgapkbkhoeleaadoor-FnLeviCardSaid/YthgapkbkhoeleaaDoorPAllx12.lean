-- Printed by a program of the session (wip/tools/pgen.py) out of the translation. Not trusted: Lean checks it.
import Derived.Test.YthgapkbkhoeleaaDoorPAllx0
import Derived.Test.YthgapkbkhoeleaaDoorPAllx1
import Derived.Test.YthgapkbkhoeleaaDoorPAllx2
import Derived.Test.YthgapkbkhoeleaaDoorPAllx3
import Derived.Test.YthgapkbkhoeleaaDoorPAllx5
namespace Go.Proofs.YthgapkbkhoeleaaDoor.PAll
open Go.RowKit Go.Proofs.YthgapkbkhoeleaaDoor.T Go.Proofs.YthgapkbkhoeleaaDoorW.PrintWords Go.Proofs.YthgapkbkhoeleaaDoorW.PrintLast Go.Proofs.YthgapkbkhoeleaaDoorW.PrintMore
attribute [local go_sem] max2_int min2_int max_two min_two max_three min_three max_four min_four   -- for this text's walks alone
set_option linter.unusedVariables false
set_option linter.unusedSimpArgs false

/-! ### spec_l03Same: function 79 -/
def spec_l03Same.l0 : Nat → List Int → List Int → Int → Int → List Int → Option (Bool)
 | 0, _, _, _, _, _ => none
 | k + 1, x1, x7, x8, x142000, x142001 => if x8 < (x1.length : Int) then (if 0 ≤ x8 then ((spec_l03First.f k x142000 x142001 x7 (rd x1 x8)).bind fun t146 => (if t146 < 0 then (some false) else ((spec_l03Without.f x7 t146).bind fun t147 => (spec_l03Same.l0 k x1 t147 (wrap64 (x8 + 1)) x142000 x142001)))) else (none)) else (some ((x7.length : Int) == 0))
def spec_l03Same.f (k : Nat) (a0_0 : Int) (l0_1 : List Int) (l1 : List Int) (l2 : List Int) : Option (Bool) := (spec_l01Own.f l2).bind fun t142 => (spec_l03Same.l0 k l1 t142 0 a0_0 l0_1)

def spec_l03Same.T5 : Bool × List (List Nat × List Nat) := (true, [([], []), ([], []), ([], []), ([], []), ([2, 3], [2, 3]), ([4], [4]), ([0, 1, 5], [0, 1, 5]), ([6, 6, 0, 1, 2, 3, 4, 5, 6], [6])])
def spec_l03Same.B5 : List Nat := [0, 0, 0, 0, 12, 28, 63, 127]
theorem spec_l03Same.tab5 : rtab .any (opsOf Tryd.f79 5) = spec_l03Same.T5 := by kernel_rfl
theorem spec_l03Same.bits5 : waitsOk spec_l03Same.T5.2 spec_l03Same.B5 = true := by kernel_rfl
set_option maxHeartbeats 8000000 in
set_option maxRecDepth 100000 in
theorem spec_l03Same.calls (k : Nat) (a0_0 : Int) (A0_1 : Option Addr) (c0_1 : Nat) (l0_1 : List Int) (A1 : Option Addr) (c1 : Nat) (l1 : List Int) (A2 : Option Addr) (c2 : Nat) (l2 : List Int) (r : Bool) (w : World) (hr0_1 : Kd.C (Kd.int .i64) w A0_1 l0_1.length l0_1) (hc0_1 : l0_1.length ≤ c0_1) (hr1 : Kd.C (Kd.int .i64) w A1 l1.length l1) (hc1 : l1.length ≤ c1) (hr2 : Kd.C (Kd.int .i64) w A2 l2.length l2) (hc2 : l2.length ≤ c2) (h : spec_l03Same.f k a0_0 l0_1 l1 l2 = some r) :
  Calls Tryd.prog 79 #[.agg #[.int .i64 a0_0, .slice A0_1 l0_1.length c0_1], .slice A1 l1.length c1, .slice A2 l2.length c2] w fun e w' => e = .returned (.bool r) ∧ Below w.heap.size w w' := by
 have hu29 := Tryd.underlying29
 have HR0_1 := zA hr0_1
 have HC0_1 := zA hc0_1
 clear hr0_1 hc0_1
 have HR1 := zA hr1
 have HC1 := zA hc1
 clear hr1 hc1
 have HR2 := zA hr2
 have HC2 := zA hc2
 clear hr2 hc2
 have HB := zA (kW w.heap.size w)
 have H := h
 unfold spec_l03Same.f at H
 clear h
 obtain ⟨t142, A4, H⟩ := zb H
 try dsimp only at H
 have H' := zA H
 clear H
 go_enter Tryd.func79, Tryd.ntmps79
 go_wp2_with (first | (refine zBE 3 #[.int .i64 a0_0, .slice A0_1 l0_1.length c0_1] 29 ?_; intro gb141 hg w5 hbox hb; have BK141 := zA (hbox); have GW141 := zA (zBH hg HB.out); have GE141 := zA (zBH hg HB.out); replace HB := zA (kQ (zQ HB.out) hb); clear hb hbox hg) | (refine zO (some 11) Tryd.func80 #[.slice A2 l2.length c2] ?_; (with_reducible refine (spec_l01Own.calls _ _ l2 t142 _ ?side1 ?side2 A4.out).mono ?_); (case side1 => exact zS (kO HR2.out HB.out)); (case side2 => exact HC2.out); rintro e w6 ⟨v143, rfl, ho0, hb⟩; refine ⟨_, rfl, ?_⟩; have HO144 := zA (kI ho0 (kP (zT HB.out GE141.out))); replace BK141 := zA (zB1 BK141.out hb); replace HB := zA (kQ (zT HB.out GE141.out) hb); (try clear hb); (try clear ho0)))
 go_loopg [7, 8] k (fun kq v7 v8 w' => ∃ (x7_1 : List Int) (x8_1 : Int), v8 = .int .i64 x8_1 ∧ Aside0 (spec_l03Same.l0 kq l1 x7_1 x8_1 a0_0 l0_1 = some r) ∧ Aside0 (kq ≤ k) ∧ Aside0 (Kd.R (Kd.int .i64) 2 w' w.heap.size (fun _ => True) v7 x7_1) ∧ Aside0 (w'.heap[gb141]? = some (.cells #[.int .i64 a0_0, (.slice A0_1 l0_1.length c0_1)] 29 (0, 0))) ∧ Aside0 (Below w.heap.size w w'))
 case atStart => exact ⟨(t142), (0), zs, H', ⟨Nat.le_refl _⟩, ⟨zP HO144.out⟩, ⟨zR BK141.out⟩, ⟨zT HB.out GE141.out⟩⟩
 case round =>
  clear H'
  try clear c1
  try clear c2
  obtain ⟨x7_1, x8_1, rfl, HA, HK1, HO_7, BK141, HB⟩ := hrel
  cases gk with
  | zero => exact absurd HA.out (by simp [spec_l03Same.l0])
  | succ k1 =>
   have H := HA.out
   clear HA
   simp only [spec_l03Same.l0] at H
   by_cases c7 : x8_1 < (l1.length : Int)
   ·rw [if_pos c7] at H
    have c7b0 : decide (x8_1 < (l1.length : Int)) = true := decide_eq_true c7
    clear c7
    by_cases c8 : 0 ≤ x8_1
    ·rw [if_pos c8] at H
     have c8b0 : decide (0 ≤ x8_1) = true := decide_eq_true c8
     clear c8
     obtain ⟨t146, A9, H⟩ := zb H
     try dsimp only at H
     by_cases c10 : t146 < 0
     ·rw [if_pos c10] at H
      have c10b0 : decide (t146 < 0) = true := decide_eq_true c10
      clear c10
      obtain rfl := Option.some.inj H
      try go_wp2
      replace HO_7 := zA (zH HO_7.out)
      replace BK141 := zA (zK BK141.out)
      replace HB := zA (zD HB.out)
      have p145 : 0 ≤ (x8_1 : Int) := zd
      have q145 : x8_1 < (l1.length : Int) := zd
      obtain ⟨ad145, e145, hx145_0⟩ := Kd.at_int HR1.out x8_1 p145 q145
      have hw145_0 := hx145_0
      cases e145
      replace hx145_0 := (HB.out.cell (jG w _ hx145_0)).trans hx145_0
      replace p145 := eq_true p145
      replace q145 := eq_true q145
      obtain ⟨Ao12, co12, eo12⟩ := kM HO_7.out
      (first | subst eo12 | (injection eo12 with f1_ f2_ f3_; have f4_ := f1_.symm; have f5_ := f3_.symm; clear f1_ f2_ f3_; subst f4_; subst f5_))
      refine start_ (n := 8) (S := fun w' => w'.cell? ⟨gb141, 0, none⟩ = some (.int .i64 a0_0) ∧ w'.cell? ⟨gb141, 1, none⟩ = some (.slice A0_1 l0_1.length c0_1) ∧ w'.cell? (ad145.add (x8_1).toNat) = some (.int .i64 (rd l1 x8_1))) (ds := []) #[false, false, false, false, false, false, false, false] (by kernel_rfl) rfl rfl ⟨(kV BK141.out 0).trans rfl, (kV BK141.out 1).trans rfl, (pw_cell_below HB.out hw145_0)⟩ (fun hHeld => ?_); refine with_tabW spec_l03Same.tab5 spec_l03Same.bits5 (fun HT_ HW_ => ?_)
      generalize wr.drew = w11 at HO_7 BK141 HB hx145_0 hHeld ⊢
      refine zp 1 (some 19) #[false, true, false, false, false, false, false, false] HT_.out ?_
      refine zp 2 (some 20) #[false, true, true, false, false, false, false, false] HT_.out ?_
      refine zp 3 (some 21) #[false, true, true, true, false, false, false, false] HT_.out ?_
      refine zp 4 (some 22) #[false, true, true, true, true, false, false, false] HT_.out ?_
      refine ze 0 (some 18) #[true, true, true, true, true, false, false, false] HT_.out HW_.out hHeld ?_
      refine ze 5 (some 23) #[true, true, true, true, true, true, false, false] HT_.out HW_.out hHeld ?_
      refine one_ (i := 6) (N := some 24) #[true, true, true, true, true, true, true, false] rfl rfl (one_of HT_.out (by kernel_rfl)) (by decide) (fun K hK => ?_)
      refine goes_ Tryd.func153 (by kernel_rfl) rfl #[.agg #[.int .i64 a0_0, .slice A0_1 l0_1.length c0_1], .slice Ao12 x7_1.length co12, .int .i64 (rd l1 x8_1)] (by rfl) rfl rfl zg ?_
      with_reducible refine (spec_l03First.calls k1 a0_0 _ _ l0_1 _ _ x7_1 (rd l1 x8_1) t146 _ ?side1 ?side2 ?side3 ?side4 A9.out).mono ?_
      (case side1 => exact zS (kO HR0_1.out HB.out))
      (case side2 => exact HC0_1.out)
      (case side3 => exact zS (kB HO_7.out).2.2)
      (case side4 => exact (kB HO_7.out).2.1)
      rintro e w13 ⟨rfl, hb⟩
      refine ⟨_, rfl, ?_⟩
      replace HO_7 := zA (kL (zP HO_7.out) hb)
      replace BK141 := zA (zB1 BK141.out hb)
      replace HB := zA (kQ (zT HB.out GE141.out) hb)
      (try clear hb)
      (try clear hb2)
      (try clear hk)
      (try clear hi)
      (try clear hgw)
      refine hK.out _ _ ⟨(kV BK141.out 0).trans rfl, (kV BK141.out 1).trans rfl, (pw_cell_below HB.out hw145_0)⟩ (fun hHeld => ?_)
      clear hK K
      refine norm_ (a' := ?_) ?_ ?_
      rotate_left
      ·show Act.put _ (some 24) _ = _
       simp only [Act.put, zL, zM, zN, i64_w, i32_w]
       rfl
      refine zp 7 (some 9) #[true, true, true, true, true, true, true, true] HT_.out ?_
      refine done_ (done_of HT_.out (by kernel_rfl)) ?_
      try go_wp2
      go_ret
      exact ⟨zr, zT HB.out GE141.out⟩
     rw [if_neg c10] at H
     have c10b0 : decide (t146 < 0) = false := decide_eq_false c10
     clear c10
     obtain ⟨t147, A14, H⟩ := zb H
     try dsimp only at H
     have H' := zA H
     clear H
     try go_wp2
     replace HO_7 := zA (zH HO_7.out)
     replace BK141 := zA (zK BK141.out)
     replace HB := zA (zD HB.out)
     have p145 : 0 ≤ (x8_1 : Int) := zd
     have q145 : x8_1 < (l1.length : Int) := zd
     obtain ⟨ad145, e145, hx145_0⟩ := Kd.at_int HR1.out x8_1 p145 q145
     have hw145_0 := hx145_0
     cases e145
     replace hx145_0 := (HB.out.cell (jG w _ hx145_0)).trans hx145_0
     replace p145 := eq_true p145
     replace q145 := eq_true q145
     obtain ⟨Ao16, co16, eo16⟩ := kM HO_7.out
     (first | subst eo16 | (injection eo16 with f1_ f2_ f3_; have f4_ := f1_.symm; have f5_ := f3_.symm; clear f1_ f2_ f3_; subst f4_; subst f5_))
     refine start_ (n := 8) (S := fun w' => w'.cell? ⟨gb141, 0, none⟩ = some (.int .i64 a0_0) ∧ w'.cell? ⟨gb141, 1, none⟩ = some (.slice A0_1 l0_1.length c0_1) ∧ w'.cell? (ad145.add (x8_1).toNat) = some (.int .i64 (rd l1 x8_1))) (ds := []) #[false, false, false, false, false, false, false, false] (by kernel_rfl) rfl rfl ⟨(kV BK141.out 0).trans rfl, (kV BK141.out 1).trans rfl, (pw_cell_below HB.out hw145_0)⟩ (fun hHeld => ?_); refine with_tabW spec_l03Same.tab5 spec_l03Same.bits5 (fun HT_ HW_ => ?_)
     generalize wr.drew = w15 at HO_7 BK141 HB hx145_0 hHeld ⊢
     refine zp 1 (some 19) #[false, true, false, false, false, false, false, false] HT_.out ?_
     refine zp 2 (some 20) #[false, true, true, false, false, false, false, false] HT_.out ?_
     refine zp 3 (some 21) #[false, true, true, true, false, false, false, false] HT_.out ?_
     refine zp 4 (some 22) #[false, true, true, true, true, false, false, false] HT_.out ?_
     refine ze 0 (some 18) #[true, true, true, true, true, false, false, false] HT_.out HW_.out hHeld ?_
     refine ze 5 (some 23) #[true, true, true, true, true, true, false, false] HT_.out HW_.out hHeld ?_
     refine one_ (i := 6) (N := some 24) #[true, true, true, true, true, true, true, false] rfl rfl (one_of HT_.out (by kernel_rfl)) (by decide) (fun K hK => ?_)
     refine goes_ Tryd.func153 (by kernel_rfl) rfl #[.agg #[.int .i64 a0_0, .slice A0_1 l0_1.length c0_1], .slice Ao16 x7_1.length co16, .int .i64 (rd l1 x8_1)] (by rfl) rfl rfl zg ?_
     with_reducible refine (spec_l03First.calls k1 a0_0 _ _ l0_1 _ _ x7_1 (rd l1 x8_1) t146 _ ?side1 ?side2 ?side3 ?side4 A9.out).mono ?_
     (case side1 => exact zS (kO HR0_1.out HB.out))
     (case side2 => exact HC0_1.out)
     (case side3 => exact zS (kB HO_7.out).2.2)
     (case side4 => exact (kB HO_7.out).2.1)
     rintro e w17 ⟨rfl, hb⟩
     refine ⟨_, rfl, ?_⟩
     replace HO_7 := zA (kL (zP HO_7.out) hb)
     replace BK141 := zA (zB1 BK141.out hb)
     replace HB := zA (kQ (zT HB.out GE141.out) hb)
     (try clear hb)
     (try clear hb2)
     (try clear hk)
     (try clear hi)
     (try clear hgw)
     refine hK.out _ _ ⟨(kV BK141.out 0).trans rfl, (kV BK141.out 1).trans rfl, (pw_cell_below HB.out hw145_0)⟩ (fun hHeld => ?_)
     clear hK K
     refine norm_ (a' := ?_) ?_ ?_
     rotate_left
     ·show Act.put _ (some 24) _ = _
      simp only [Act.put, zL, zM, zN, i64_w, i32_w]
      rfl
     refine zp 7 (some 9) #[true, true, true, true, true, true, true, true] HT_.out ?_
     refine done_ (done_of HT_.out (by kernel_rfl)) ?_
     try go_wp2_with (first | (refine zO (some 29) Tryd.func154 #[.slice Ao16 x7_1.length co16, .int .i64 t146] ?_; (with_reducible refine (spec_l03Without.calls _ _ x7_1 t146 t147 _ ?side1 ?side2 A14.out).mono ?_); (case side1 => exact zS (kB HO_7.out).2.2); (case side2 => exact (kB HO_7.out).2.1); rintro e w18 ⟨v148, rfl, ho0, hb⟩; refine ⟨_, rfl, ?_⟩; have HO149 := zA (kI (kF ho0 (kH (zP HO_7.out))) (kP (zT HB.out GE141.out))); replace HO_7 := zA (kE (zP HO_7.out) (kC ho0) hb); replace BK141 := zA (zB1 BK141.out hb); replace HB := zA (kQ (zT HB.out GE141.out) hb); (try clear hb); (try clear ho0)))
     go_roundg k1
     case measure => have := HK1.out; omega
     case rel => exact ⟨(t147), (wrap64 (x8_1 + 1)), zs, H', ⟨by have := HK1.out; omega⟩, ⟨zPM HO149.out (fun _ hk => trivial)⟩, ⟨zR BK141.out⟩, ⟨zT HB.out GE141.out⟩⟩
    rw [if_neg c8] at H
    exact absurd H (by simp)
   rw [if_neg c7] at H
   have c7b0 : decide (x8_1 < (l1.length : Int)) = false := decide_eq_false c7
   clear c7
   obtain rfl := Option.some.inj H
   obtain ⟨Ao19, co19, eo19⟩ := kM HO_7.out
   subst eo19
   go_wp2
   go_ret
   exact ⟨zr, zT HB.out GE141.out⟩

/-! ### spec_LeviOf: function 27 -/
mutual
def spec_LeviOf.j0 : Nat → List Int → List Int → List Int → List Int → Int → Int → List Int → Option ((List (List Int)) × Int)
 | 0, _, _, _, _, _, _, _ => none
 | k + 1, x1, x2, x3, x4, x12, x195000, x195001 => if x12 = 0 then (if (wrap64 ((x1.length : Int) + (x2.length : Int))) > 24 then (spec_LeviOf.j1 k x1 x2 x3 x4 x12 true x195000 x195001) else (spec_LeviOf.j1 k x1 x2 x3 x4 x12 (decide ((wrap64 ((x3.length : Int) + (x4.length : Int))) > 24)) x195000 x195001)) else (spec_LeviOf.j1 k x1 x2 x3 x4 x12 false x195000 x195001)
def spec_LeviOf.j1 : Nat → List Int → List Int → List Int → List Int → Int → Bool → Int → List Int → Option ((List (List Int)) × Int)
 | 0, _, _, _, _, _, _, _, _ => none
 | k + 1, x1, x2, x3, x4, x12, x47, x195000, x195001 => if x47 = true then (spec_LeviOf.j2 k x1 x2 x3 x4 3 x195000 x195001) else (spec_LeviOf.j2 k x1 x2 x3 x4 x12 x195000 x195001)
def spec_LeviOf.j2 : Nat → List Int → List Int → List Int → List Int → Int → Int → List Int → Option ((List (List Int)) × Int)
 | 0, _, _, _, _, _, _, _ => none
 | k + 1, x1, x2, x3, x4, x12, x195000, x195001 => if x12 = 0 then ((spec_l01Own.f x1).bind fun t197 => (if t197.length + x2.length < 17592186044416 then ((spec_l01Own.f x3).bind fun t203 => (if t203.length + x4.length < 17592186044416 then ((spec_l03Same.f k x195000 x195001 (t197 ++ x2) (t203 ++ x4)).bind fun t209 => (spec_LeviOf.j3 k x1 x2 x3 x12 (!t209) x195000 x195001)) else (none))) else (none))) else (spec_LeviOf.j3 k x1 x2 x3 x12 false x195000 x195001)
def spec_LeviOf.j3 : Nat → List Int → List Int → List Int → Int → Bool → Int → List Int → Option ((List (List Int)) × Int)
 | 0, _, _, _, _, _, _, _ => none
 | k + 1, x1, x2, x3, x12, x62, x195000, x195001 => if x62 = true then (spec_LeviOf.j4 k x1 x2 x3 5 x195000 x195001) else (spec_LeviOf.j4 k x1 x2 x3 x12 x195000 x195001)
def spec_LeviOf.j4 : Nat → List Int → List Int → List Int → Int → Int → List Int → Option ((List (List Int)) × Int)
 | 0, _, _, _, _, _, _ => none
 | k + 1, x1, x2, x3, x12, x195000, x195001 => if x12 = 0 then ((spec_l05Meet.f k x195000 x195001 x1 x3).bind fun t210 => ((spec_l05Cut.f k x195000 x195001 t210 x1).bind fun bt213 => ((spec_l05Cut.f k x195000 x195001 t210 x3).bind fun bt217 => ((spec_l05Cut.f k x195000 x195001 bt217.1 x2).bind fun bt221 => ((spec_l03Normal.f k x195000 x195001 t210).bind fun t225 => ((spec_l03Normal.f k x195000 x195001 bt213.1).bind fun t228 => ((spec_l03Normal.f k x195000 x195001 bt217.1).bind fun t231 => ((spec_l03Normal.f k x195000 x195001 bt221.1).bind fun t234 => (some ((([t225, t228, t231, t234] : List (List Int))), 0)))))))))) else (some (([] : List (List Int)), x12))
end
def spec_LeviOf.f (k : Nat) (a0_0 : Int) (l0_1 : List Int) (l1 : List Int) (l2 : List Int) (l3 : List Int) (l4 : List Int) : Option ((List (List Int)) × Int) := (spec_l03Code.f k a0_0 l0_1 l1 l2).bind fun t195 => (if t195 = 0 then ((spec_l03Code.f k a0_0 l0_1 l3 l4).bind fun t196 => (spec_LeviOf.j0 k l1 l2 l3 l4 t196 a0_0 l0_1)) else (spec_LeviOf.j0 k l1 l2 l3 l4 t195 a0_0 l0_1))

def spec_LeviOf.T6 : Bool × List (List Nat × List Nat) := (true, [([], []), ([0], [0]), ([1], [1]), ([2], [2]), ([2], [2]), ([4, 2, 2], [2, 4]), ([2], [2]), ([5, 6, 5, 2], [2, 5, 6]), ([2], [2]), ([8, 7, 2], [2, 8]), ([2], [2]), ([9, 10, 9, 2], [2, 9, 10]), ([3, 7, 11, 11, 2], [2, 3, 7, 11]), ([12, 2], [2, 12]), ([2, 13], [2, 13])])
def spec_LeviOf.B6 : List Nat := [0, 1, 3, 7, 7, 23, 7, 119, 7, 503, 7, 2039, 4095, 8191, 16383]
theorem spec_LeviOf.tab6 : rtab .any (opsOf Tryd.f27 6) = spec_LeviOf.T6 := by kernel_rfl
theorem spec_LeviOf.bits6 : waitsOk spec_LeviOf.T6.2 spec_LeviOf.B6 = true := by kernel_rfl
def spec_LeviOf.T14 : Bool × List (List Nat × List Nat) := (true, [([], []), ([], []), ([0, 1], [0, 1]), ([], []), ([], []), ([3, 4, 2], [3, 4]), ([], []), ([], []), ([6, 7, 5], [6, 7]), ([], []), ([], []), ([9, 10, 8], [9, 10]), ([2, 5, 8, 11], [2, 5, 8, 11]), ([12, 11, 0, 1, 2, 3, 4, 5, 6, 7, 8, 9, 10, 11, 12], [12]), ([13, 0, 1, 2, 3, 4, 5, 6, 7, 8, 9, 10, 11, 12, 13], [])])
def spec_LeviOf.B14 : List Nat := [0, 0, 3, 0, 0, 31, 0, 0, 255, 0, 0, 2047, 4095, 8191, 16383]
theorem spec_LeviOf.tab14 : rtab .any (opsOf Tryd.f27 14) = spec_LeviOf.T14 := by kernel_rfl
theorem spec_LeviOf.bits14 : waitsOk spec_LeviOf.T14.2 spec_LeviOf.B14 = true := by kernel_rfl
set_option maxHeartbeats 8000000 in
set_option maxRecDepth 100000 in
theorem spec_LeviOf.calls (k : Nat) (a0_0 : Int) (A0_1 : Option Addr) (c0_1 : Nat) (l0_1 : List Int) (A1 : Option Addr) (c1 : Nat) (l1 : List Int) (A2 : Option Addr) (c2 : Nat) (l2 : List Int) (A3 : Option Addr) (c3 : Nat) (l3 : List Int) (A4 : Option Addr) (c4 : Nat) (l4 : List Int) (r1 : List (List Int)) (r2 : Int) (w : World) (hr0_1 : Kd.C (Kd.int .i64) w A0_1 l0_1.length l0_1) (hc0_1 : l0_1.length ≤ c0_1) (hr1 : Kd.C (Kd.int .i64) w A1 l1.length l1) (hc1 : l1.length ≤ c1) (hr2 : Kd.C (Kd.int .i64) w A2 l2.length l2) (hc2 : l2.length ≤ c2) (hr3 : Kd.C (Kd.int .i64) w A3 l3.length l3) (hc3 : l3.length ≤ c3) (hr4 : Kd.C (Kd.int .i64) w A4 l4.length l4) (hc4 : l4.length ≤ c4) (h : spec_LeviOf.f k a0_0 l0_1 l1 l2 l3 l4 = some (r1, r2)) :
  Calls Tryd.prog 27 #[.agg #[.int .i64 a0_0, .slice A0_1 l0_1.length c0_1], .slice A1 l1.length c1, .slice A2 l2.length c2, .slice A3 l3.length c3, .slice A4 l4.length c4] w fun e w' => ∃ v0_ : Value, e = .returned (.tuple #[v0_, .int .i64 r2]) ∧ Kd.N (Kd.slice 2 (Kd.int .i64)) 22 w' w.heap.size (fun k_ => (w.heap.size ≤ k_)) v0_ r1 ∧ Below w.heap.size w w' := by
 have hu29 := Tryd.underlying29
 have HR0_1 := zA hr0_1
 have HC0_1 := zA hc0_1
 clear hr0_1 hc0_1
 have HR1 := zA hr1
 have HC1 := zA hc1
 clear hr1 hc1
 have HR2 := zA hr2
 have HC2 := zA hc2
 clear hr2 hc2
 have HR3 := zA hr3
 have HC3 := zA hc3
 clear hr3 hc3
 have HR4 := zA hr4
 have HC4 := zA hc4
 clear hr4 hc4
 have HB := zA (kW w.heap.size w)
 have H := h
 unfold spec_LeviOf.f at H
 clear h
 obtain ⟨t195, A6, H⟩ := zb H
 try dsimp only at H
 have HC7 := zA H
 clear H
 go_enter Tryd.func27, Tryd.ntmps27
 go_upto_if 25 with (first | (refine zBE 5 #[.int .i64 a0_0, .slice A0_1 l0_1.length c0_1] 29 ?_; intro gb194 hg w8 hbox hb; have BK194 := zA (hbox); have GW194 := zA (zBH hg HB.out); have GE194 := zA (zBH hg HB.out); replace HB := zA (kQ (zQ HB.out) hb); clear hb hbox hg; obtain ⟨hcz9_0, hcz9_1, hfz9_0, hfz9_1⟩ := zB3 BK194.out) | (refine zO (some 23) Tryd.func74 #[.agg #[.int .i64 a0_0, .slice A0_1 l0_1.length c0_1], .slice A1 l1.length c1, .slice A2 l2.length c2] ?_; (with_reducible refine (spec_l03Code.calls k a0_0 _ _ l0_1 _ _ l1 _ _ l2 t195 _ ?side1 ?side2 ?side3 ?side4 ?side5 ?side6 A6.out).mono ?_); (case side1 => exact zS (kO HR0_1.out HB.out)); (case side2 => exact HC0_1.out); (case side3 => exact zS (kO HR1.out HB.out)); (case side4 => exact HC1.out); (case side5 => exact zS (kO HR2.out HB.out)); (case side6 => exact HC2.out); rintro e w10 ⟨rfl, hb⟩; refine ⟨_, rfl, ?_⟩; replace BK194 := zA (zB1 BK194.out hb); replace HB := zA (kQ (zT HB.out GE194.out) hb); (try clear hb)))
 (try simp only [Act.put, zL, zM, zN])
 go_cut [12] (fun v12 wc => ∃ (kq : Nat) (x12_6 : Int), v12 = .int .i64 x12_6 ∧ Aside0 (spec_LeviOf.j0 kq l1 l2 l3 l4 x12_6 a0_0 l0_1 = some (r1, r2)) ∧ Aside0 (kq ≤ k) ∧ Aside0 (wc.heap[gb194]? = some (.cells #[.int .i64 a0_0, (.slice A0_1 l0_1.length c0_1)] 29 (0, 0))) ∧ Aside0 (Below w.heap.size w wc))
 case first =>
  have H := HC7.out
  clear HC7
  by_cases c11 : t195 = 0
  ·rw [if_pos c11] at H
   obtain ⟨c11b0, c11b1⟩ := zT1 c11
   clear c11
   (first | rw [c11b0] | (simp only [i64_w, i32_w]; rw [c11b0]) | skip)
   obtain ⟨t196, A12, H⟩ := zb H
   try dsimp only at H
   have H' := zA H
   clear H
   obtain ⟨hcz13_0, hcz13_1, hfz13_0, hfz13_1⟩ := zB3 BK194.out
   go_wp2_with (first | (refine zO (some 29) Tryd.func74 #[.agg #[.int .i64 a0_0, .slice A0_1 l0_1.length c0_1], .slice A3 l3.length c3, .slice A4 l4.length c4] ?_; (with_reducible refine (spec_l03Code.calls k a0_0 _ _ l0_1 _ _ l3 _ _ l4 t196 _ ?side1 ?side2 ?side3 ?side4 ?side5 ?side6 A12.out).mono ?_); (case side1 => exact zS (kO HR0_1.out HB.out)); (case side2 => exact HC0_1.out); (case side3 => exact zS (kO HR3.out HB.out)); (case side4 => exact HC3.out); (case side5 => exact zS (kO HR4.out HB.out)); (case side6 => exact HC4.out); rintro e w14 ⟨rfl, hb⟩; refine ⟨_, rfl, ?_⟩; replace BK194 := zA (zB1 BK194.out hb); replace HB := zA (kQ (zT HB.out GE194.out) hb); (try clear hb)))
   go_meet
   case rel => exact ⟨_, (t196), zs, H', ⟨by first | omega | exact Nat.le_refl _⟩, ⟨zR BK194.out⟩, ⟨zT HB.out GE194.out⟩⟩
  rw [if_neg c11] at H
  obtain ⟨c11b0, c11b1⟩ := zT2 c11
  (first | rw [c11b0] | (simp only [i64_w, i32_w]; rw [c11b0]) | skip)
  have H' := zA H
  clear H
  go_wp2
  go_meet
  case rel => exact ⟨_, (t195), zs, H', ⟨by first | omega | exact Nat.le_refl _⟩, ⟨zR BK194.out⟩, ⟨zT HB.out GE194.out⟩⟩
 case rest =>
  clear HC7
  try clear c1
  try clear c2
  try clear c3
  try clear c4
  try clear c7
  try clear c11
  try clear hcz13_0
  try clear hcz13_1
  try clear hcz9_0
  try clear hcz9_1
  try clear hfz13_0
  try clear hfz13_1
  try clear hfz9_0
  try clear hfz9_1
  obtain ⟨kq, x12_6, rfl, HA, HJ6, BK194, HB⟩ := hcut
  cases kq with
  | zero => exact absurd HA.out (by simp [spec_LeviOf.j0])
  | succ kj6 =>
   have H := HA.out
   clear HA
   simp only [spec_LeviOf.j0] at H
   have HC15 := zA H
   clear H
   go_upto_region 4 with (fail)
   go_cut [47] (fun v47 wc => ∃ (kq : Nat) (x47_14 : Bool), v47 = .bool x47_14 ∧ Aside0 (spec_LeviOf.j1 kq l1 l2 l3 l4 x12_6 x47_14 a0_0 l0_1 = some (r1, r2)) ∧ Aside0 (kq ≤ kj6) ∧ Aside0 (wc.heap[gb194]? = some (.cells #[.int .i64 a0_0, (.slice A0_1 l0_1.length c0_1)] 29 (0, 0))) ∧ Aside0 (Below w.heap.size w wc))
   case first =>
    have H := HC15.out
    clear HC15
    by_cases c16 : x12_6 = 0
    ·rw [if_pos c16] at H
     obtain ⟨c16b0, c16b1⟩ := zT1 c16
     clear c16
     (first | rw [c16b0] | (simp only [i64_w, i32_w]; rw [c16b0]) | skip)
     by_cases c17 : (wrap64 ((l1.length : Int) + (l2.length : Int))) > 24
     ·rw [if_pos c17] at H
      have c17b0 : decide (24 < (wrap64 ((l1.length : Int) + (l2.length : Int)))) = true := decide_eq_true c17
      clear c17
      have H' := zA H
      clear H
      go_wp2
      go_meet
      case rel => exact ⟨_, (true), zs, H', ⟨by have := HJ6.out; first | omega | exact Nat.le_refl _⟩, ⟨zR BK194.out⟩, ⟨zT HB.out GE194.out⟩⟩
     rw [if_neg c17] at H
     have c17b0 : decide (24 < (wrap64 ((l1.length : Int) + (l2.length : Int)))) = false := decide_eq_false c17
     clear c17
     have H' := zA H
     clear H
     go_wp2
     go_meet
     case rel => exact ⟨_, (decide ((wrap64 ((l3.length : Int) + (l4.length : Int))) > 24)), zs, H', ⟨by have := HJ6.out; first | omega | exact Nat.le_refl _⟩, ⟨zR BK194.out⟩, ⟨zT HB.out GE194.out⟩⟩
    rw [if_neg c16] at H
    obtain ⟨c16b0, c16b1⟩ := zT2 c16
    (first | rw [c16b0] | (simp only [i64_w, i32_w]; rw [c16b0]) | skip)
    have H' := zA H
    clear H
    go_wp2
    go_meet
    case rel => exact ⟨_, (false), zs, H', ⟨by have := HJ6.out; first | omega | exact Nat.le_refl _⟩, ⟨zR BK194.out⟩, ⟨zT HB.out GE194.out⟩⟩
   case rest =>
    clear HC15
    try clear c1
    try clear c2
    try clear c3
    try clear c4
    try clear c7
    try clear c11
    try clear c16
    try clear c17
    try clear hcz13_0
    try clear hcz13_1
    try clear hcz9_0
    try clear hcz9_1
    try clear hfz13_0
    try clear hfz13_1
    try clear hfz9_0
    try clear hfz9_1
    obtain ⟨kq, x47_14, rfl, HA, HJ14, BK194, HB⟩ := hcut
    cases kq with
    | zero => exact absurd HA.out (by simp [spec_LeviOf.j1])
    | succ kj14 =>
     have H := HA.out
     clear HA
     simp only [spec_LeviOf.j1] at H
     have HC18 := zA H
     clear H
     go_upto_if 47 with (fail)
     go_cut [12] (fun v12 wc => ∃ (kq : Nat) (x12_17 : Int), v12 = .int .i64 x12_17 ∧ Aside0 (spec_LeviOf.j2 kq l1 l2 l3 l4 x12_17 a0_0 l0_1 = some (r1, r2)) ∧ Aside0 (kq ≤ kj14) ∧ Aside0 (wc.heap[gb194]? = some (.cells #[.int .i64 a0_0, (.slice A0_1 l0_1.length c0_1)] 29 (0, 0))) ∧ Aside0 (Below w.heap.size w wc))
     case first =>
      have H := HC18.out
      clear HC18
      by_cases c19 : x47_14 = true
      ·subst c19
       rw [if_pos rfl] at H
       have H' := zA H
       clear H
       go_wp2
       go_meet
       case rel => exact ⟨_, (3), zs, H', ⟨by have := HJ6.out; have := HJ14.out; first | omega | exact Nat.le_refl _⟩, ⟨zR BK194.out⟩, ⟨zT HB.out GE194.out⟩⟩
      replace c19 := Bool.eq_false_iff.mpr c19
      subst c19
      rw [if_neg (show ¬ (false = true) by decide)] at H
      have H' := zA H
      clear H
      go_wp2
      go_meet
      case rel => exact ⟨_, (x12_6), zs, H', ⟨by have := HJ6.out; have := HJ14.out; first | omega | exact Nat.le_refl _⟩, ⟨zR BK194.out⟩, ⟨zT HB.out GE194.out⟩⟩
     case rest =>
      clear HC18
      try clear c1
      try clear c2
      try clear c3
      try clear c4
      try clear c7
      try clear c11
      try clear c16
      try clear c17
      try clear c19
      try clear hcz13_0
      try clear hcz13_1
      try clear hcz9_0
      try clear hcz9_1
      try clear hfz13_0
      try clear hfz13_1
      try clear hfz9_0
      try clear hfz9_1
      obtain ⟨kq, x12_17, rfl, HA, HJ17, BK194, HB⟩ := hcut
      cases kq with
      | zero => exact absurd HA.out (by simp [spec_LeviOf.j2])
      | succ kj17 =>
       have H := HA.out
       clear HA
       simp only [spec_LeviOf.j2] at H
       have HC20 := zA H
       clear H
       go_upto_region 6 with (fail)
       go_cut [62] (fun v62 wc => ∃ (kq : Nat) (x62_19 : Bool), v62 = .bool x62_19 ∧ Aside0 (spec_LeviOf.j3 kq l1 l2 l3 x12_17 x62_19 a0_0 l0_1 = some (r1, r2)) ∧ Aside0 (kq ≤ kj17) ∧ Aside0 (wc.heap[gb194]? = some (.cells #[.int .i64 a0_0, (.slice A0_1 l0_1.length c0_1)] 29 (0, 0))) ∧ Aside0 (Below w.heap.size w wc))
       case first =>
        have H := HC20.out
        clear HC20
        by_cases c21 : x12_17 = 0
        ·rw [if_pos c21] at H
         obtain ⟨c21b0, c21b1⟩ := zT1 c21
         clear c21
         (first | rw [c21b0] | (simp only [i64_w, i32_w]; rw [c21b0]) | skip)
         obtain ⟨t197, A22, H⟩ := zb H
         try dsimp only at H
         by_cases c23 : t197.length + l2.length < 17592186044416
         ·rw [if_pos c23] at H
          have LMc23 := zA c23
          clear c23
          obtain ⟨y200, hy200⟩ : ∃ y_ : List Int, y_ = (t197 ++ l2) := ⟨_, rfl⟩
          replace H : ((spec_l01Own.f l3).bind fun t203 => (if t203.length + l4.length < 17592186044416 then ((spec_l03Same.f kj17 a0_0 l0_1 y200 (t203 ++ l4)).bind fun t209 => (spec_LeviOf.j3 kj17 l1 l2 l3 x12_17 (!t209) a0_0 l0_1)) else (none))) = some (r1, r2) := zy hy200 H
          have Ny200 := zA hy200
          clear hy200
          obtain ⟨t203, A24, H⟩ := zb H
          try dsimp only at H
          by_cases c25 : t203.length + l4.length < 17592186044416
          ·rw [if_pos c25] at H
           have LMc25 := zA c25
           clear c25
           obtain ⟨y206, hy206⟩ : ∃ y_ : List Int, y_ = (t203 ++ l4) := ⟨_, rfl⟩
           replace H : ((spec_l03Same.f kj17 a0_0 l0_1 y200 y206).bind fun t209 => (spec_LeviOf.j3 kj17 l1 l2 l3 x12_17 (!t209) a0_0 l0_1)) = some (r1, r2) := zy hy206 H
           have Ny206 := zA hy206
           clear hy206
           obtain ⟨t209, A26, H⟩ := zb H
           try dsimp only at H
           have H' := zA H
           clear H
           try go_wp2
           replace BK194 := zA (zK BK194.out)
           replace HB := zA (zD HB.out)
           refine start_ (n := 15) (S := fun w' => w'.cell? ⟨gb194, 0, none⟩ = some (.int .i64 a0_0) ∧ w'.cell? ⟨gb194, 1, none⟩ = some (.slice A0_1 l0_1.length c0_1)) (ds := []) #[false, false, false, false, false, false, false, false, false, false, false, false, false, false, false] (by kernel_rfl) rfl rfl ⟨(kV BK194.out 0).trans rfl, (kV BK194.out 1).trans rfl⟩ (fun hHeld => ?_); refine with_tabW spec_LeviOf.tab6 spec_LeviOf.bits6 (fun HT_ HW_ => ?_)
           generalize wc.drew = w27 at BK194 HB hHeld ⊢
           refine zp 0 (some 48) #[true, false, false, false, false, false, false, false, false, false, false, false, false, false, false] HT_.out ?_
           refine zp 1 (some 49) #[true, true, false, false, false, false, false, false, false, false, false, false, false, false, false] HT_.out ?_
           refine zp 2 (some 50) #[true, true, true, false, false, false, false, false, false, false, false, false, false, false, false] HT_.out ?_
           refine zp 4 (some 52) #[true, true, true, false, true, false, false, false, false, false, false, false, false, false, false] HT_.out ?_
           refine zp 6 (some 54) #[true, true, true, false, true, false, true, false, false, false, false, false, false, false, false] HT_.out ?_
           refine zp 8 (some 56) #[true, true, true, false, true, false, true, false, true, false, false, false, false, false, false] HT_.out ?_
           refine zp 10 (some 58) #[true, true, true, false, true, false, true, false, true, false, true, false, false, false, false] HT_.out ?_
           refine zc 3 (some 51) #[true, true, true, true, true, false, true, false, true, false, true, false, false, false, false] HT_.out HW_.out hHeld ?_
           refine one_ (i := 5) (N := some 53) #[true, true, true, true, true, true, true, false, true, false, true, false, false, false, false] rfl rfl (one_of HT_.out (by kernel_rfl)) (by decide) (fun K hK => ?_)
           refine goes_ Tryd.func80 (by kernel_rfl) rfl #[.slice A1 l1.length c1] (by rfl) rfl rfl zg ?_
           with_reducible refine (spec_l01Own.calls _ _ l1 t197 _ ?side1 ?side2 A22.out).mono ?_
           (case side1 => exact zS (kO HR1.out HB.out))
           (case side2 => exact HC1.out)
           rintro e w28 ⟨v198, rfl, ho0, hb⟩
           refine ⟨_, rfl, ?_⟩
           have HO199 := zA (kI (Kd.R_newM (M := fun k_ => (w.heap.size ≤ k_)) ho0 (kP (zT HB.out GE194.out)) (fun k_ h_ => h_)) (kP (zT HB.out GE194.out)))
           replace BK194 := zA (zB1 BK194.out hb)
           replace HB := zA (kQ (zT HB.out GE194.out) hb)
           (try clear hb)
           (try clear hb2)
           (try clear hk)
           (try clear hi)
           (try clear hgw)
           (try clear ho0)
           refine hK.out _ _ ⟨(kV BK194.out 0).trans rfl, (kV BK194.out 1).trans rfl⟩ (fun hHeld => ?_)
           clear hK K
           refine norm_ (a' := ?_) ?_ ?_
           rotate_left
           ·show Act.put _ (some 53) _ = _
            simp only [Act.put, zL, zM, zN, i64_w, i32_w]
            rfl
           refine one_ (i := 7) (N := some 55) #[true, true, true, true, true, true, true, true, true, false, true, false, false, false, false] rfl rfl (one_of HT_.out (by kernel_rfl)) (by decide) (fun K hK => ?_)
           refine Kd.R_append_rows_step (Kd.int .i64) (w0 := w) w.heap.size (by rfl) (.tmp 53) (.tmp 54) 22 2 (.int .i64 0) 8 rfl Tryd.underlying22 info2 rfl (by decide) (by omega) v198 t197 l2 _ _ _ (fun k_ => (w.heap.size ≤ k_)) (fun _ => False) rfl rfl ?aO ?aR (fun _ _ h => h) (fun _ h => h.elim) ?aF ?aB ?aS ?aL ?_
           (case aR => exact zS (kO HR2.out HB.out))
           (case aB => exact (zT HB.out GE194.out))
           (case aF => exact (fun k_ hk => (Nat.le_trans (kP (zT HB.out GE194.out)) hk)))
           (case aO => exact (by (with_reducible repeat (first | apply zF | apply zG | apply zH)); exact kA HO199.out (fun _ hk => hk.1)))
           (case aS => exact (kP (zT HB.out GE194.out)))
           (case aL => have := LMc23.out; omega)
           intro v201 w29 ho hb hg hat
           rw [← Ny200.out] at ho
           replace BK194 := zA (blk_grown (g := gb194) (o := .cells #[.int .i64 a0_0, .slice A0_1 l0_1.length c0_1] 29 (0, 0)) (zR BK194.out) hg (Kd.R_ne HO199.out BK194.out (by decide)))
           replace HB := zA (hb)
           have HO202 := zA (ho)
           clear HO199 ho hb hg hat
           refine hK.out _ _ ⟨(kV BK194.out 0).trans rfl, (kV BK194.out 1).trans rfl⟩ (fun hHeld => ?_)
           clear hK K
           refine norm_ (a' := ?_) ?_ ?_
           rotate_left
           ·show Act.put _ (some 55) _ = _
            simp only [Act.put, zL, zM, zN, i64_w, i32_w]
            rfl
           refine one_ (i := 9) (N := some 57) #[true, true, true, true, true, true, true, true, true, true, true, false, false, false, false] rfl rfl (one_of HT_.out (by kernel_rfl)) (by decide) (fun K hK => ?_)
           refine goes_ Tryd.func80 (by kernel_rfl) rfl #[.slice A3 l3.length c3] (by rfl) rfl rfl zg ?_
           with_reducible refine (spec_l01Own.calls _ _ l3 t203 _ ?side1 ?side2 A24.out).mono ?_
           (case side1 => exact zS (kO HR3.out HB.out))
           (case side2 => exact HC3.out)
           rintro e w30 ⟨v204, rfl, ho0, hb⟩
           refine ⟨_, rfl, ?_⟩
           have HO205 := zA (kI (kF (Kd.R_newM (M := fun k_ => (w.heap.size ≤ k_)) ho0 (kP (zT HB.out GE194.out)) (fun k_ h_ => h_)) (kH (zP HO202.out))) (kP (zT HB.out GE194.out)))
           replace HO202 := zA (kE (zP HO202.out) (kC ho0) hb)
           replace BK194 := zA (zB1 BK194.out hb)
           replace HB := zA (kQ (zT HB.out GE194.out) hb)
           (try clear hb)
           (try clear hb2)
           (try clear hk)
           (try clear hi)
           (try clear hgw)
           (try clear ho0)
           refine hK.out _ _ ⟨(kV BK194.out 0).trans rfl, (kV BK194.out 1).trans rfl⟩ (fun hHeld => ?_)
           clear hK K
           refine norm_ (a' := ?_) ?_ ?_
           rotate_left
           ·show Act.put _ (some 57) _ = _
            simp only [Act.put, zL, zM, zN, i64_w, i32_w]
            rfl
           refine one_ (i := 11) (N := some 59) #[true, true, true, true, true, true, true, true, true, true, true, true, false, false, false] rfl rfl (one_of HT_.out (by kernel_rfl)) (by decide) (fun K hK => ?_)
           refine Kd.R_append_rows_step (Kd.int .i64) (w0 := w) w.heap.size (by rfl) (.tmp 57) (.tmp 58) 22 2 (.int .i64 0) 8 rfl Tryd.underlying22 info2 rfl (by decide) (by omega) v204 t203 l4 _ _ _ (fun k_ => (w.heap.size ≤ k_) ∧ some k_ ≠ (v201 : Value).ownBlock) (fun _ => False) rfl rfl ?aO ?aR (fun _ _ h => h) (fun _ h => h.elim) ?aF ?aB ?aS ?aL ?_
           (case aR => exact zS (kO HR4.out HB.out))
           (case aB => exact (zT HB.out GE194.out))
           (case aF => exact (fun k_ hk => ⟨(Nat.le_trans (kP (zT HB.out GE194.out)) hk), jF (kH (zP HO202.out)) k_ hk⟩))
           (case aO => exact (by (with_reducible repeat (first | apply zF | apply zG | apply zH)); exact kA HO205.out (fun _ hk => ⟨hk.1.1, hk.2⟩)))
           (case aS => exact (kP (zT HB.out GE194.out)))
           (case aL => have := LMc25.out; omega)
           intro v207 w31 ho hb hg hat
           rw [← Ny206.out] at ho
           replace BK194 := zA (blk_grown (g := gb194) (o := .cells #[.int .i64 a0_0, .slice A0_1 l0_1.length c0_1] 29 (0, 0)) (zR BK194.out) hg (Kd.R_ne HO205.out BK194.out (by decide)))
           replace HO202 := zA (Kd.R_after (ok := (fun k_ => (w.heap.size ≤ k_))) (zP HO202.out) hg hat)
           replace HB := zA (hb)
           have HO208 := zA (ho)
           clear HO205 ho hb hg hat
           obtain ⟨Ao32, co32, eo32⟩ := kM HO202.out
           (first | subst eo32 | (injection eo32 with f1_ f2_ f3_; have f4_ := f1_.symm; have f5_ := f3_.symm; clear f1_ f2_ f3_; subst f4_; subst f5_))
           obtain ⟨Ao33, co33, eo33⟩ := kM HO208.out
           (first | subst eo33 | (injection eo33 with f1_ f2_ f3_; have f4_ := f1_.symm; have f5_ := f3_.symm; clear f1_ f2_ f3_; subst f4_; subst f5_))
           refine hK.out _ _ ⟨(kV BK194.out 0).trans rfl, (kV BK194.out 1).trans rfl⟩ (fun hHeld => ?_)
           clear hK K
           refine norm_ (a' := ?_) ?_ ?_
           rotate_left
           ·show Act.put _ (some 59) _ = _
            simp only [Act.put, zL, zM, zN, i64_w, i32_w]
            rfl
           refine one_ (i := 12) (N := some 60) #[true, true, true, true, true, true, true, true, true, true, true, true, true, false, false] rfl rfl (one_of HT_.out (by kernel_rfl)) (by decide) (fun K hK => ?_)
           refine goes_ Tryd.func79 (by kernel_rfl) rfl #[.agg #[.int .i64 a0_0, .slice A0_1 l0_1.length c0_1], .slice Ao32 y200.length co32, .slice Ao33 y206.length co33] (by rfl) rfl rfl zg ?_
           with_reducible refine (spec_l03Same.calls kj17 a0_0 _ _ l0_1 _ _ y200 _ _ y206 t209 _ ?side1 ?side2 ?side3 ?side4 ?side5 ?side6 A26.out).mono ?_
           (case side1 => exact zS (kO HR0_1.out HB.out))
           (case side2 => exact HC0_1.out)
           (case side3 => exact zS (kB HO202.out).2.2)
           (case side4 => exact (kB HO202.out).2.1)
           (case side5 => exact zS (kB HO208.out).2.2)
           (case side6 => exact (kB HO208.out).2.1)
           rintro e w34 ⟨rfl, hb⟩
           refine ⟨_, rfl, ?_⟩
           replace HO202 := zA (kL (zP HO202.out) hb)
           replace HO208 := zA (kL (zP HO208.out) hb)
           replace BK194 := zA (zB1 BK194.out hb)
           replace HB := zA (kQ (zT HB.out GE194.out) hb)
           (try clear hb)
           (try clear hb2)
           (try clear hk)
           (try clear hi)
           (try clear hgw)
           refine hK.out _ _ ⟨(kV BK194.out 0).trans rfl, (kV BK194.out 1).trans rfl⟩ (fun hHeld => ?_)
           clear hK K
           refine norm_ (a' := ?_) ?_ ?_
           rotate_left
           ·show Act.put _ (some 60) _ = _
            simp only [Act.put, zL, zM, zN, i64_w, i32_w]
            rfl
           refine zp 13 (some 61) #[true, true, true, true, true, true, true, true, true, true, true, true, true, true, false] HT_.out ?_
           refine zp 14 (some 62) #[true, true, true, true, true, true, true, true, true, true, true, true, true, true, true] HT_.out ?_
           refine done_ (done_of HT_.out (by kernel_rfl)) ?_
           try go_wp2
           go_meet
           case rel => exact ⟨_, (!t209), zs, H', ⟨by have := HJ6.out; have := HJ14.out; have := HJ17.out; first | omega | exact Nat.le_refl _⟩, ⟨zR BK194.out⟩, ⟨zT HB.out GE194.out⟩⟩
          rw [if_neg c25] at H
          exact absurd H (by simp)
         rw [if_neg c23] at H
         exact absurd H (by simp)
        rw [if_neg c21] at H
        obtain ⟨c21b0, c21b1⟩ := zT2 c21
        (first | rw [c21b0] | (simp only [i64_w, i32_w]; rw [c21b0]) | skip)
        have H' := zA H
        clear H
        try go_wp2
        replace BK194 := zA (zK BK194.out)
        replace HB := zA (zD HB.out)
        refine start_ (n := 15) (S := fun w' => True) (ds := []) #[false, false, false, false, false, false, false, false, false, false, false, false, false, false, false] (by kernel_rfl) rfl rfl trivial (fun hHeld => ?_); refine with_tabW spec_LeviOf.tab6 spec_LeviOf.bits6 (fun HT_ HW_ => ?_)
        generalize wc.drew = w35 at BK194 HB hHeld ⊢
        refine zp 0 (some 48) #[true, false, false, false, false, false, false, false, false, false, false, false, false, false, false] HT_.out ?_
        refine zp 1 (some 49) #[true, true, false, false, false, false, false, false, false, false, false, false, false, false, false] HT_.out ?_
        refine zp 2 (some 50) #[true, true, true, false, false, false, false, false, false, false, false, false, false, false, false] HT_.out ?_
        refine zu 3 (some 51) #[true, true, true, true, false, false, false, false, false, false, false, false, false, false, false] HT_.out ?_
        refine zu 4 (some 52) #[true, true, true, true, true, false, false, false, false, false, false, false, false, false, false] HT_.out ?_
        refine zu 5 (some 53) #[true, true, true, true, true, true, false, false, false, false, false, false, false, false, false] HT_.out ?_
        refine zu 6 (some 54) #[true, true, true, true, true, true, true, false, false, false, false, false, false, false, false] HT_.out ?_
        refine zu 7 (some 55) #[true, true, true, true, true, true, true, true, false, false, false, false, false, false, false] HT_.out ?_
        refine zu 8 (some 56) #[true, true, true, true, true, true, true, true, true, false, false, false, false, false, false] HT_.out ?_
        refine zu 9 (some 57) #[true, true, true, true, true, true, true, true, true, true, false, false, false, false, false] HT_.out ?_
        refine zu 10 (some 58) #[true, true, true, true, true, true, true, true, true, true, true, false, false, false, false] HT_.out ?_
        refine zu 11 (some 59) #[true, true, true, true, true, true, true, true, true, true, true, true, false, false, false] HT_.out ?_
        refine zu 12 (some 60) #[true, true, true, true, true, true, true, true, true, true, true, true, true, false, false] HT_.out ?_
        refine zu 13 (some 61) #[true, true, true, true, true, true, true, true, true, true, true, true, true, true, false] HT_.out ?_
        refine zp 14 (some 62) #[true, true, true, true, true, true, true, true, true, true, true, true, true, true, true] HT_.out ?_
        refine done_ (done_of HT_.out (by kernel_rfl)) ?_
        try go_wp2
        go_meet
        case rel => exact ⟨_, (false), zs, H', ⟨by have := HJ6.out; have := HJ14.out; have := HJ17.out; first | omega | exact Nat.le_refl _⟩, ⟨zR BK194.out⟩, ⟨zT HB.out GE194.out⟩⟩
       case rest =>
        clear HC20
        try clear c1
        try clear c2
        try clear c3
        try clear c4
        try clear c7
        try clear c8
        try clear c11
        try clear c16
        try clear c17
        try clear c19
        try clear c21
        try clear c23
        try clear c25
        try clear c27
        try clear hcz13_0
        try clear hcz13_1
        try clear hcz9_0
        try clear hcz9_1
        try clear hfz13_0
        try clear hfz13_1
        try clear hfz9_0
        try clear hfz9_1
        obtain ⟨kq, x62_19, rfl, HA, HJ19, BK194, HB⟩ := hcut
        cases kq with
        | zero => exact absurd HA.out (by simp [spec_LeviOf.j3])
        | succ kj19 =>
         have H := HA.out
         clear HA
         simp only [spec_LeviOf.j3] at H
         have HC36 := zA H
         clear H
         go_upto_if 62 with (fail)
         go_cut [12] (fun v12 wc => ∃ (kq : Nat) (x12_35 : Int), v12 = .int .i64 x12_35 ∧ Aside0 (spec_LeviOf.j4 kq l1 l2 l3 x12_35 a0_0 l0_1 = some (r1, r2)) ∧ Aside0 (kq ≤ kj19) ∧ Aside0 (wc.heap[gb194]? = some (.cells #[.int .i64 a0_0, (.slice A0_1 l0_1.length c0_1)] 29 (0, 0))) ∧ Aside0 (Below w.heap.size w wc))
         case first =>
          have H := HC36.out
          clear HC36
          by_cases c37 : x62_19 = true
          ·subst c37
           rw [if_pos rfl] at H
           have H' := zA H
           clear H
           go_wp2
           go_meet
           case rel => exact ⟨_, (5), zs, H', ⟨by have := HJ6.out; have := HJ14.out; have := HJ17.out; have := HJ19.out; first | omega | exact Nat.le_refl _⟩, ⟨zR BK194.out⟩, ⟨zT HB.out GE194.out⟩⟩
          replace c37 := Bool.eq_false_iff.mpr c37
          subst c37
          rw [if_neg (show ¬ (false = true) by decide)] at H
          have H' := zA H
          clear H
          go_wp2
          go_meet
          case rel => exact ⟨_, (x12_17), zs, H', ⟨by have := HJ6.out; have := HJ14.out; have := HJ17.out; have := HJ19.out; first | omega | exact Nat.le_refl _⟩, ⟨zR BK194.out⟩, ⟨zT HB.out GE194.out⟩⟩
         case rest =>
          clear HC36
          try clear c1
          try clear c2
          try clear c3
          try clear c4
          try clear c7
          try clear c8
          try clear c11
          try clear c16
          try clear c17
          try clear c19
          try clear c21
          try clear c23
          try clear c25
          try clear c27
          try clear c37
          try clear hcz13_0
          try clear hcz13_1
          try clear hcz9_0
          try clear hcz9_1
          try clear hfz13_0
          try clear hfz13_1
          try clear hfz9_0
          try clear hfz9_1
          obtain ⟨kq, x12_35, rfl, HA, HJ35, BK194, HB⟩ := hcut
          cases kq with
          | zero => exact absurd HA.out (by simp [spec_LeviOf.j4])
          | succ kj35 =>
           have H := HA.out
           clear HA
           simp only [spec_LeviOf.j4] at H
           by_cases c38 : x12_35 = 0
           ·rw [if_pos c38] at H
            obtain ⟨c38b0, c38b1⟩ := zT1 c38
            clear c38
            obtain ⟨t210, A39, H⟩ := zb H
            try dsimp only at H
            obtain ⟨⟨t213, t216⟩, A40, H⟩ := zb H
            try dsimp only at H
            obtain ⟨⟨t217, t220⟩, A41, H⟩ := zb H
            try dsimp only at H
            obtain ⟨⟨t221, t224⟩, A42, H⟩ := zb H
            try dsimp only at H
            obtain ⟨t225, A43, H⟩ := zb H
            try dsimp only at H
            obtain ⟨t228, A44, H⟩ := zb H
            try dsimp only at H
            obtain ⟨t231, A45, H⟩ := zb H
            try dsimp only at H
            obtain ⟨t234, A46, H⟩ := zb H
            try dsimp only at H
            obtain ⟨y237, hy237⟩ : ∃ y_ : List (List Int), y_ = (([t225, t228, t231, t234] : List (List Int))) := ⟨_, rfl⟩
            replace H : (some (y237, 0)) = some (r1, r2) := zy hy237 H
            have Ny237 := zA hy237
            clear hy237
            simp only [Option.some.injEq, Prod.mk.injEq] at H
            obtain ⟨rfl, rfl⟩ := H
            obtain ⟨hcz47_0, hcz47_1, hfz47_0, hfz47_1⟩ := zB3 BK194.out
            try go_wp2_with (first | (refine zO (some 69) Tryd.func81 #[.agg #[.int .i64 a0_0, .slice A0_1 l0_1.length c0_1], .slice A1 l1.length c1, .slice A3 l3.length c3] ?_; (with_reducible refine (spec_l05Meet.calls kj35 a0_0 _ _ l0_1 _ _ l1 _ _ l3 t210 _ ?side1 ?side2 ?side3 ?side4 ?side5 ?side6 A39.out).mono ?_); (case side1 => exact zS (kO HR0_1.out HB.out)); (case side2 => exact HC0_1.out); (case side3 => exact zS (kO HR1.out HB.out)); (case side4 => exact HC1.out); (case side5 => exact zS (kO HR3.out HB.out)); (case side6 => exact HC3.out); rintro e w48 ⟨v211, rfl, ho0, hb⟩; refine ⟨_, rfl, ?_⟩; have HO212 := zA (kI (Kd.R_newM (M := fun k_ => (w.heap.size ≤ k_)) ho0 (kP (zT HB.out GE194.out)) (fun k_ h_ => h_)) (kP (zT HB.out GE194.out))); replace BK194 := zA (zB1 BK194.out hb); replace HB := zA (kQ (zT HB.out GE194.out) hb); (try clear hb); (try clear ho0); obtain ⟨hcz49_0, hcz49_1, hfz49_0, hfz49_1⟩ := zB3 BK194.out; obtain ⟨Ao50, co50, eo50⟩ := kM HO212.out; subst eo50) | (refine zO (some 74) Tryd.func82 #[.agg #[.int .i64 a0_0, .slice A0_1 l0_1.length c0_1], .slice Ao50 t210.length co50, .slice A1 l1.length c1] ?_; (with_reducible refine (spec_l05Cut.calls kj35 a0_0 _ _ l0_1 _ _ t210 _ _ l1 t213 t216 _ ?side1 ?side2 ?side3 ?side4 ?side5 ?side6 A40.out).mono ?_); (case side1 => exact zS (kO HR0_1.out HB.out)); (case side2 => exact HC0_1.out); (case side3 => exact zS (kB HO212.out).2.2); (case side4 => exact (kB HO212.out).2.1); (case side5 => exact zS (kO HR1.out HB.out)); (case side6 => exact HC1.out); rintro e w51 ⟨v214, rfl, ho0, hb⟩; refine ⟨_, rfl, ?_⟩; have HO215 := zA (kI (kF (Kd.R_newM (M := fun k_ => (w.heap.size ≤ k_)) ho0 (kP (zT HB.out GE194.out)) (fun k_ h_ => h_)) (kH (zP HO212.out))) (kP (zT HB.out GE194.out))); replace HO212 := zA (kE (zP HO212.out) (kC ho0) hb); replace BK194 := zA (zB1 BK194.out hb); replace HB := zA (kQ (zT HB.out GE194.out) hb); (try clear hb); (try clear ho0); obtain ⟨hcz52_0, hcz52_1, hfz52_0, hfz52_1⟩ := zB3 BK194.out) | (refine zO (some 81) Tryd.func82 #[.agg #[.int .i64 a0_0, .slice A0_1 l0_1.length c0_1], .slice Ao50 t210.length co50, .slice A3 l3.length c3] ?_; (with_reducible refine (spec_l05Cut.calls kj35 a0_0 _ _ l0_1 _ _ t210 _ _ l3 t217 t220 _ ?side1 ?side2 ?side3 ?side4 ?side5 ?side6 A41.out).mono ?_); (case side1 => exact zS (kO HR0_1.out HB.out)); (case side2 => exact HC0_1.out); (case side3 => exact zS (kB HO212.out).2.2); (case side4 => exact (kB HO212.out).2.1); (case side5 => exact zS (kO HR3.out HB.out)); (case side6 => exact HC3.out); rintro e w53 ⟨v218, rfl, ho0, hb⟩; refine ⟨_, rfl, ?_⟩; have HO219 := zA (kI (kF (kF (Kd.R_newM (M := fun k_ => (w.heap.size ≤ k_)) ho0 (kP (zT HB.out GE194.out)) (fun k_ h_ => h_)) (kH (zP HO212.out))) (kH (zP HO215.out))) (kP (zT HB.out GE194.out))); replace HO212 := zA (kE (zP HO212.out) (kC ho0) hb); replace HO215 := zA (kE (zP HO215.out) (kC ho0) hb); replace BK194 := zA (zB1 BK194.out hb); replace HB := zA (kQ (zT HB.out GE194.out) hb); (try clear hb); (try clear ho0); obtain ⟨hcz54_0, hcz54_1, hfz54_0, hfz54_1⟩ := zB3 BK194.out; obtain ⟨Ao55, co55, eo55⟩ := kM HO219.out; subst eo55) | (refine zO (some 88) Tryd.func82 #[.agg #[.int .i64 a0_0, .slice A0_1 l0_1.length c0_1], .slice Ao55 t217.length co55, .slice A2 l2.length c2] ?_; (with_reducible refine (spec_l05Cut.calls kj35 a0_0 _ _ l0_1 _ _ t217 _ _ l2 t221 t224 _ ?side1 ?side2 ?side3 ?side4 ?side5 ?side6 A42.out).mono ?_); (case side1 => exact zS (kO HR0_1.out HB.out)); (case side2 => exact HC0_1.out); (case side3 => exact zS (kB HO219.out).2.2); (case side4 => exact (kB HO219.out).2.1); (case side5 => exact zS (kO HR2.out HB.out)); (case side6 => exact HC2.out); rintro e w56 ⟨v222, rfl, ho0, hb⟩; refine ⟨_, rfl, ?_⟩; have HO223 := zA (kI (kF (kF (kF (Kd.R_newM (M := fun k_ => (w.heap.size ≤ k_)) ho0 (kP (zT HB.out GE194.out)) (fun k_ h_ => h_)) (kH (zP HO212.out))) (kH (zP HO215.out))) (kH (zP HO219.out))) (kP (zT HB.out GE194.out))); replace HO212 := zA (kE (zP HO212.out) (kC ho0) hb); replace HO215 := zA (kE (zP HO215.out) (kC ho0) hb); replace HO219 := zA (kE (zP HO219.out) (kC ho0) hb); replace BK194 := zA (zB1 BK194.out hb); replace HB := zA (kQ (zT HB.out GE194.out) hb); (try clear hb); (try clear ho0)))
            replace HO212 := zA (zH HO212.out)
            replace HO215 := zA (zH HO215.out)
            replace HO219 := zA (zH HO219.out)
            replace HO223 := zA (zH HO223.out)
            replace BK194 := zA (zK BK194.out)
            replace HB := zA (zD HB.out)
            refine start_ (n := 15) (S := fun w' => w'.cell? ⟨gb194, 0, none⟩ = some (.int .i64 a0_0) ∧ w'.cell? ⟨gb194, 1, none⟩ = some (.slice A0_1 l0_1.length c0_1)) (ds := []) #[false, false, false, false, false, false, false, false, false, false, false, false, false, false, false] (by kernel_rfl) rfl rfl ⟨(kV BK194.out 0).trans rfl, (kV BK194.out 1).trans rfl⟩ (fun hHeld => ?_); refine with_tabW spec_LeviOf.tab14 spec_LeviOf.bits14 (fun HT_ HW_ => ?_)
            generalize w56.drew = w57 at HO212 HO215 HO219 HO223 BK194 HB hHeld ⊢
            refine zp 1 (some 92) #[false, true, false, false, false, false, false, false, false, false, false, false, false, false, false] HT_.out ?_
            refine zp 4 (some 95) #[false, true, false, false, true, false, false, false, false, false, false, false, false, false, false] HT_.out ?_
            refine zp 7 (some 98) #[false, true, false, false, true, false, false, true, false, false, false, false, false, false, false] HT_.out ?_
            refine zp 10 (some 101) #[false, true, false, false, true, false, false, true, false, false, true, false, false, false, false] HT_.out ?_
            refine zc 0 (some 91) #[true, true, false, false, true, false, false, true, false, false, true, false, false, false, false] HT_.out HW_.out hHeld ?_
            refine zc 3 (some 94) #[true, true, false, true, true, false, false, true, false, false, true, false, false, false, false] HT_.out HW_.out hHeld ?_
            refine zc 6 (some 97) #[true, true, false, true, true, false, true, true, false, false, true, false, false, false, false] HT_.out HW_.out hHeld ?_
            refine zc 9 (some 100) #[true, true, false, true, true, false, true, true, false, true, true, false, false, false, false] HT_.out HW_.out hHeld ?_
            refine one_ (i := 2) (N := some 93) #[true, true, true, true, true, false, true, true, false, true, true, false, false, false, false] rfl rfl (one_of HT_.out (by kernel_rfl)) (by decide) (fun K hK => ?_)
            refine goes_ Tryd.func83 (by kernel_rfl) rfl #[.agg #[.int .i64 a0_0, .slice A0_1 l0_1.length c0_1], .slice Ao50 t210.length co50] (by rfl) rfl rfl zg ?_
            with_reducible refine (spec_l03Normal.calls kj35 a0_0 _ _ l0_1 _ _ t210 t225 _ ?side1 ?side2 ?side3 ?side4 A43.out).mono ?_
            (case side1 => exact zS (kO HR0_1.out HB.out))
            (case side2 => exact HC0_1.out)
            (case side3 => exact zS (kB HO212.out).2.2)
            (case side4 => exact (kB HO212.out).2.1)
            rintro e w58 ⟨v226, rfl, ho0, hb⟩
            refine ⟨_, rfl, ?_⟩
            have HO227 := zA (kI (kF (kF (kF (kF (Kd.R_newM (M := fun k_ => (w.heap.size ≤ k_)) ho0 (kP (zT HB.out GE194.out)) (fun k_ h_ => h_)) (kH (zP HO212.out))) (kH (zP HO215.out))) (kH (zP HO219.out))) (kH (zP HO223.out))) (kP (zT HB.out GE194.out)))
            replace HO212 := zA (kE (zP HO212.out) (kC ho0) hb)
            replace HO215 := zA (kE (zP HO215.out) (kC ho0) hb)
            replace HO219 := zA (kE (zP HO219.out) (kC ho0) hb)
            replace HO223 := zA (kE (zP HO223.out) (kC ho0) hb)
            replace BK194 := zA (zB1 BK194.out hb)
            replace HB := zA (kQ (zT HB.out GE194.out) hb)
            (try clear hb)
            (try clear hb2)
            (try clear hk)
            (try clear hi)
            (try clear hgw)
            (try clear ho0)
            obtain ⟨Ao59, co59, eo59⟩ := kM HO215.out
            (first | subst eo59 | (injection eo59 with f1_ f2_ f3_; have f4_ := f1_.symm; have f5_ := f3_.symm; clear f1_ f2_ f3_; subst f4_; subst f5_))
            refine hK.out _ _ ⟨(kV BK194.out 0).trans rfl, (kV BK194.out 1).trans rfl⟩ (fun hHeld => ?_)
            clear hK K
            refine norm_ (a' := ?_) ?_ ?_
            rotate_left
            ·show Act.put _ (some 93) _ = _
             simp only [Act.put, zL, zM, zN, i64_w, i32_w]
             rfl
            refine one_ (i := 5) (N := some 96) #[true, true, true, true, true, true, true, true, false, true, true, false, false, false, false] rfl rfl (one_of HT_.out (by kernel_rfl)) (by decide) (fun K hK => ?_)
            refine goes_ Tryd.func83 (by kernel_rfl) rfl #[.agg #[.int .i64 a0_0, .slice A0_1 l0_1.length c0_1], .slice Ao59 t213.length co59] (by rfl) rfl rfl zg ?_
            with_reducible refine (spec_l03Normal.calls kj35 a0_0 _ _ l0_1 _ _ t213 t228 _ ?side1 ?side2 ?side3 ?side4 A44.out).mono ?_
            (case side1 => exact zS (kO HR0_1.out HB.out))
            (case side2 => exact HC0_1.out)
            (case side3 => exact zS (kB HO215.out).2.2)
            (case side4 => exact (kB HO215.out).2.1)
            rintro e w60 ⟨v229, rfl, ho0, hb⟩
            refine ⟨_, rfl, ?_⟩
            have HO230 := zA (kI (kF (kF (kF (kF (kF (Kd.R_newM (M := fun k_ => (w.heap.size ≤ k_)) ho0 (kP (zT HB.out GE194.out)) (fun k_ h_ => h_)) (kH (zP HO212.out))) (kH (zP HO215.out))) (kH (zP HO219.out))) (kH (zP HO223.out))) (kH (zP HO227.out))) (kP (zT HB.out GE194.out)))
            replace HO212 := zA (kE (zP HO212.out) (kC ho0) hb)
            replace HO215 := zA (kE (zP HO215.out) (kC ho0) hb)
            replace HO219 := zA (kE (zP HO219.out) (kC ho0) hb)
            replace HO223 := zA (kE (zP HO223.out) (kC ho0) hb)
            replace HO227 := zA (kE (zP HO227.out) (kC ho0) hb)
            replace BK194 := zA (zB1 BK194.out hb)
            replace HB := zA (kQ (zT HB.out GE194.out) hb)
            (try clear hb)
            (try clear hb2)
            (try clear hk)
            (try clear hi)
            (try clear hgw)
            (try clear ho0)
            refine hK.out _ _ ⟨(kV BK194.out 0).trans rfl, (kV BK194.out 1).trans rfl⟩ (fun hHeld => ?_)
            clear hK K
            refine norm_ (a' := ?_) ?_ ?_
            rotate_left
            ·show Act.put _ (some 96) _ = _
             simp only [Act.put, zL, zM, zN, i64_w, i32_w]
             rfl
            refine one_ (i := 8) (N := some 99) #[true, true, true, true, true, true, true, true, true, true, true, false, false, false, false] rfl rfl (one_of HT_.out (by kernel_rfl)) (by decide) (fun K hK => ?_)
            refine goes_ Tryd.func83 (by kernel_rfl) rfl #[.agg #[.int .i64 a0_0, .slice A0_1 l0_1.length c0_1], .slice Ao55 t217.length co55] (by rfl) rfl rfl zg ?_
            with_reducible refine (spec_l03Normal.calls kj35 a0_0 _ _ l0_1 _ _ t217 t231 _ ?side1 ?side2 ?side3 ?side4 A45.out).mono ?_
            (case side1 => exact zS (kO HR0_1.out HB.out))
            (case side2 => exact HC0_1.out)
            (case side3 => exact zS (kB HO219.out).2.2)
            (case side4 => exact (kB HO219.out).2.1)
            rintro e w61 ⟨v232, rfl, ho0, hb⟩
            refine ⟨_, rfl, ?_⟩
            have HO233 := zA (kI (kF (kF (kF (kF (kF (kF (Kd.R_newM (M := fun k_ => (w.heap.size ≤ k_)) ho0 (kP (zT HB.out GE194.out)) (fun k_ h_ => h_)) (kH (zP HO212.out))) (kH (zP HO215.out))) (kH (zP HO219.out))) (kH (zP HO223.out))) (kH (zP HO227.out))) (kH (zP HO230.out))) (kP (zT HB.out GE194.out)))
            replace HO212 := zA (kE (zP HO212.out) (kC ho0) hb)
            replace HO215 := zA (kE (zP HO215.out) (kC ho0) hb)
            replace HO219 := zA (kE (zP HO219.out) (kC ho0) hb)
            replace HO223 := zA (kE (zP HO223.out) (kC ho0) hb)
            replace HO227 := zA (kE (zP HO227.out) (kC ho0) hb)
            replace HO230 := zA (kE (zP HO230.out) (kC ho0) hb)
            replace BK194 := zA (zB1 BK194.out hb)
            replace HB := zA (kQ (zT HB.out GE194.out) hb)
            (try clear hb)
            (try clear hb2)
            (try clear hk)
            (try clear hi)
            (try clear hgw)
            (try clear ho0)
            obtain ⟨Ao62, co62, eo62⟩ := kM HO223.out
            (first | subst eo62 | (injection eo62 with f1_ f2_ f3_; have f4_ := f1_.symm; have f5_ := f3_.symm; clear f1_ f2_ f3_; subst f4_; subst f5_))
            refine hK.out _ _ ⟨(kV BK194.out 0).trans rfl, (kV BK194.out 1).trans rfl⟩ (fun hHeld => ?_)
            clear hK K
            refine norm_ (a' := ?_) ?_ ?_
            rotate_left
            ·show Act.put _ (some 99) _ = _
             simp only [Act.put, zL, zM, zN, i64_w, i32_w]
             rfl
            refine one_ (i := 11) (N := some 102) #[true, true, true, true, true, true, true, true, true, true, true, true, false, false, false] rfl rfl (one_of HT_.out (by kernel_rfl)) (by decide) (fun K hK => ?_)
            refine goes_ Tryd.func83 (by kernel_rfl) rfl #[.agg #[.int .i64 a0_0, .slice A0_1 l0_1.length c0_1], .slice Ao62 t221.length co62] (by rfl) rfl rfl zg ?_
            with_reducible refine (spec_l03Normal.calls kj35 a0_0 _ _ l0_1 _ _ t221 t234 _ ?side1 ?side2 ?side3 ?side4 A46.out).mono ?_
            (case side1 => exact zS (kO HR0_1.out HB.out))
            (case side2 => exact HC0_1.out)
            (case side3 => exact zS (kB HO223.out).2.2)
            (case side4 => exact (kB HO223.out).2.1)
            rintro e w63 ⟨v235, rfl, ho0, hb⟩
            refine ⟨_, rfl, ?_⟩
            have HO236 := zA (kI (kF (kF (kF (kF (kF (kF (kF (Kd.R_newM (M := fun k_ => (w.heap.size ≤ k_)) ho0 (kP (zT HB.out GE194.out)) (fun k_ h_ => h_)) (kH (zP HO212.out))) (kH (zP HO215.out))) (kH (zP HO219.out))) (kH (zP HO223.out))) (kH (zP HO227.out))) (kH (zP HO230.out))) (kH (zP HO233.out))) (kP (zT HB.out GE194.out)))
            replace HO212 := zA (kE (zP HO212.out) (kC ho0) hb)
            replace HO215 := zA (kE (zP HO215.out) (kC ho0) hb)
            replace HO219 := zA (kE (zP HO219.out) (kC ho0) hb)
            replace HO223 := zA (kE (zP HO223.out) (kC ho0) hb)
            replace HO227 := zA (kE (zP HO227.out) (kC ho0) hb)
            replace HO230 := zA (kE (zP HO230.out) (kC ho0) hb)
            replace HO233 := zA (kE (zP HO233.out) (kC ho0) hb)
            replace BK194 := zA (zB1 BK194.out hb)
            replace HB := zA (kQ (zT HB.out GE194.out) hb)
            (try clear hb)
            (try clear hb2)
            (try clear hk)
            (try clear hi)
            (try clear hgw)
            (try clear ho0)
            obtain ⟨Ao64, co64, eo64⟩ := kM HO227.out
            (first | subst eo64 | (injection eo64 with f1_ f2_ f3_; have f4_ := f1_.symm; have f5_ := f3_.symm; clear f1_ f2_ f3_; subst f4_; subst f5_))
            obtain ⟨Ao65, co65, eo65⟩ := kM HO230.out
            (first | subst eo65 | (injection eo65 with f1_ f2_ f3_; have f4_ := f1_.symm; have f5_ := f3_.symm; clear f1_ f2_ f3_; subst f4_; subst f5_))
            obtain ⟨Ao66, co66, eo66⟩ := kM HO233.out
            (first | subst eo66 | (injection eo66 with f1_ f2_ f3_; have f4_ := f1_.symm; have f5_ := f3_.symm; clear f1_ f2_ f3_; subst f4_; subst f5_))
            obtain ⟨Ao67, co67, eo67⟩ := kM HO236.out
            (first | subst eo67 | (injection eo67 with f1_ f2_ f3_; have f4_ := f1_.symm; have f5_ := f3_.symm; clear f1_ f2_ f3_; subst f4_; subst f5_))
            refine hK.out _ _ ⟨(kV BK194.out 0).trans rfl, (kV BK194.out 1).trans rfl⟩ (fun hHeld => ?_)
            clear hK K
            refine norm_ (a' := ?_) ?_ ?_
            rotate_left
            ·show Act.put _ (some 102) _ = _
             simp only [Act.put, zL, zM, zN, i64_w, i32_w]
             rfl
            refine one_ (i := 12) (N := some 103) #[true, true, true, true, true, true, true, true, true, true, true, true, true, false, false] rfl rfl (one_of HT_.out (by kernel_rfl)) (by decide) (fun K hK => ?_)
            refine Kd.N_lit_step (Kd.slice 2 (Kd.int .i64)) _ 22 ?hg (N' := 103) ?hd (xs := ([t225, t228, t231, t234] : List (List Int))) (inner := [.slice Ao64 t225.length co64, .slice Ao65 t228.length co65, .slice Ao66 t231.length co66, .slice Ao67 t234.length co67]) (ok := (fun k_ => (w.heap.size ≤ k_) ∧ some k_ ≠ (.slice Ao50 t210.length co50 : Value).ownBlock ∧ some k_ ≠ (.slice Ao59 t213.length co59 : Value).ownBlock ∧ some k_ ≠ (.slice Ao55 t217.length co55 : Value).ownBlock ∧ some k_ ≠ (.slice Ao62 t221.length co62 : Value).ownBlock ∧ k_ ≠ gb194)) (okp := (fun k_ => (w.heap.size ≤ k_) ∧ some k_ ≠ (.slice Ao50 t210.length co50 : Value).ownBlock ∧ some k_ ≠ (.slice Ao59 t213.length co59 : Value).ownBlock ∧ some k_ ≠ (.slice Ao55 t217.length co55 : Value).ownBlock ∧ some k_ ≠ (.slice Ao62 t221.length co62 : Value).ownBlock ∧ k_ ≠ gb194)) ?hr ?hp (fun _ hk => hk) ((show ∀ k_ : Nat, (_ : Nat) ≤ k_ → (fun k_ => (w.heap.size ≤ k_) ∧ some k_ ≠ (.slice Ao50 t210.length co50 : Value).ownBlock ∧ some k_ ≠ (.slice Ao59 t213.length co59 : Value).ownBlock ∧ some k_ ≠ (.slice Ao55 t217.length co55 : Value).ownBlock ∧ some k_ ≠ (.slice Ao62 t221.length co62 : Value).ownBlock ∧ k_ ≠ gb194) k_ from fun k_ hk => ⟨(Nat.le_trans (kP (zT HB.out GE194.out)) hk), jF (kH (zP HO212.out)) k_ hk, jF (kH (zP HO215.out)) k_ hk, jF (kH (zP HO219.out)) k_ hk, jF (kH (zP HO223.out)) k_ hk, jE (g := gb194) (o := .cells #[.int .i64 a0_0, .slice A0_1 l0_1.length c0_1] 29 (0, 0)) (zR BK194.out) k_ hk⟩) _ (Nat.le_refl _)) (kW _ _) (Nat.le_refl _) (by simp) ?_; (case hd => rfl); (case hg => rfl); (case hr => first | (go_simp; done) | (go_simp; rfl)); (case hp => exact (Reps.one (show Kd.FK (Kd.slice 2 (Kd.int .i64)) _ _ t225 [.slice Ao64 t225.length co64] from (Kd.FK_slice_mk (kB (kA (ok' := (fun k_ => (w.heap.size ≤ k_) ∧ some k_ ≠ (.slice Ao50 t210.length co50 : Value).ownBlock ∧ some k_ ≠ (.slice Ao59 t213.length co59 : Value).ownBlock ∧ some k_ ≠ (.slice Ao55 t217.length co55 : Value).ownBlock ∧ some k_ ≠ (.slice Ao62 t221.length co62 : Value).ownBlock ∧ k_ ≠ gb194)) (kD (HO227.out) BK194.out (by decide)) (fun k_ hk => ⟨hk.1.1.1.1.1.1.1.1.1, ⟨hk.1.1.1.1.1.1.1.2, ⟨hk.1.1.1.1.1.1.2, ⟨hk.1.1.1.1.1.2, ⟨hk.1.1.1.1.2, hk.2⟩⟩⟩⟩⟩))).2.1 (Kd.R_F (kA (ok' := (fun k_ => (w.heap.size ≤ k_) ∧ some k_ ≠ (.slice Ao50 t210.length co50 : Value).ownBlock ∧ some k_ ≠ (.slice Ao59 t213.length co59 : Value).ownBlock ∧ some k_ ≠ (.slice Ao55 t217.length co55 : Value).ownBlock ∧ some k_ ≠ (.slice Ao62 t221.length co62 : Value).ownBlock ∧ k_ ≠ gb194)) (kD (HO227.out) BK194.out (by decide)) (fun k_ hk => ⟨hk.1.1.1.1.1.1.1.1.1, ⟨hk.1.1.1.1.1.1.1.2, ⟨hk.1.1.1.1.1.1.2, ⟨hk.1.1.1.1.1.2, ⟨hk.1.1.1.1.2, hk.2⟩⟩⟩⟩⟩))))) (Reps.one (show Kd.FK (Kd.slice 2 (Kd.int .i64)) _ _ t228 [.slice Ao65 t228.length co65] from (Kd.FK_slice_mk (kB (kA (ok' := (fun k_ => (w.heap.size ≤ k_) ∧ some k_ ≠ (.slice Ao50 t210.length co50 : Value).ownBlock ∧ some k_ ≠ (.slice Ao59 t213.length co59 : Value).ownBlock ∧ some k_ ≠ (.slice Ao55 t217.length co55 : Value).ownBlock ∧ some k_ ≠ (.slice Ao62 t221.length co62 : Value).ownBlock ∧ k_ ≠ gb194)) (kD (HO230.out) BK194.out (by decide)) (fun k_ hk => ⟨hk.1.1.1.1.1.1.1.1.1, ⟨hk.1.1.1.1.1.1.1.2, ⟨hk.1.1.1.1.1.1.2, ⟨hk.1.1.1.1.1.2, ⟨hk.1.1.1.1.2, hk.2⟩⟩⟩⟩⟩))).2.1 (Kd.R_F (kA (ok' := (fun k_ => (w.heap.size ≤ k_) ∧ some k_ ≠ (.slice Ao50 t210.length co50 : Value).ownBlock ∧ some k_ ≠ (.slice Ao59 t213.length co59 : Value).ownBlock ∧ some k_ ≠ (.slice Ao55 t217.length co55 : Value).ownBlock ∧ some k_ ≠ (.slice Ao62 t221.length co62 : Value).ownBlock ∧ k_ ≠ gb194)) (kD (HO230.out) BK194.out (by decide)) (fun k_ hk => ⟨hk.1.1.1.1.1.1.1.1.1, ⟨hk.1.1.1.1.1.1.1.2, ⟨hk.1.1.1.1.1.1.2, ⟨hk.1.1.1.1.1.2, ⟨hk.1.1.1.1.2, hk.2⟩⟩⟩⟩⟩))))) (Reps.one (show Kd.FK (Kd.slice 2 (Kd.int .i64)) _ _ t231 [.slice Ao66 t231.length co66] from (Kd.FK_slice_mk (kB (kA (ok' := (fun k_ => (w.heap.size ≤ k_) ∧ some k_ ≠ (.slice Ao50 t210.length co50 : Value).ownBlock ∧ some k_ ≠ (.slice Ao59 t213.length co59 : Value).ownBlock ∧ some k_ ≠ (.slice Ao55 t217.length co55 : Value).ownBlock ∧ some k_ ≠ (.slice Ao62 t221.length co62 : Value).ownBlock ∧ k_ ≠ gb194)) (kD (HO233.out) BK194.out (by decide)) (fun k_ hk => ⟨hk.1.1.1.1.1.1.1.1.1, ⟨hk.1.1.1.1.1.1.1.2, ⟨hk.1.1.1.1.1.1.2, ⟨hk.1.1.1.1.1.2, ⟨hk.1.1.1.1.2, hk.2⟩⟩⟩⟩⟩))).2.1 (Kd.R_F (kA (ok' := (fun k_ => (w.heap.size ≤ k_) ∧ some k_ ≠ (.slice Ao50 t210.length co50 : Value).ownBlock ∧ some k_ ≠ (.slice Ao59 t213.length co59 : Value).ownBlock ∧ some k_ ≠ (.slice Ao55 t217.length co55 : Value).ownBlock ∧ some k_ ≠ (.slice Ao62 t221.length co62 : Value).ownBlock ∧ k_ ≠ gb194)) (kD (HO233.out) BK194.out (by decide)) (fun k_ hk => ⟨hk.1.1.1.1.1.1.1.1.1, ⟨hk.1.1.1.1.1.1.1.2, ⟨hk.1.1.1.1.1.1.2, ⟨hk.1.1.1.1.1.2, ⟨hk.1.1.1.1.2, hk.2⟩⟩⟩⟩⟩))))) (Reps.one (show Kd.FK (Kd.slice 2 (Kd.int .i64)) _ _ t234 [.slice Ao67 t234.length co67] from (Kd.FK_slice_mk (kB (kA (ok' := (fun k_ => (w.heap.size ≤ k_) ∧ some k_ ≠ (.slice Ao50 t210.length co50 : Value).ownBlock ∧ some k_ ≠ (.slice Ao59 t213.length co59 : Value).ownBlock ∧ some k_ ≠ (.slice Ao55 t217.length co55 : Value).ownBlock ∧ some k_ ≠ (.slice Ao62 t221.length co62 : Value).ownBlock ∧ k_ ≠ gb194)) (kD (HO236.out) BK194.out (by decide)) (fun k_ hk => ⟨hk.1.1.1.1.1.1.1.1.1, ⟨hk.1.1.1.1.1.1.1.2, ⟨hk.1.1.1.1.1.1.2, ⟨hk.1.1.1.1.1.2, ⟨hk.1.1.1.1.2, hk.2⟩⟩⟩⟩⟩))).2.1 (Kd.R_F (kA (ok' := (fun k_ => (w.heap.size ≤ k_) ∧ some k_ ≠ (.slice Ao50 t210.length co50 : Value).ownBlock ∧ some k_ ≠ (.slice Ao59 t213.length co59 : Value).ownBlock ∧ some k_ ≠ (.slice Ao55 t217.length co55 : Value).ownBlock ∧ some k_ ≠ (.slice Ao62 t221.length co62 : Value).ownBlock ∧ k_ ≠ gb194)) (kD (HO236.out) BK194.out (by decide)) (fun k_ hk => ⟨hk.1.1.1.1.1.1.1.1.1, ⟨hk.1.1.1.1.1.1.1.2, ⟨hk.1.1.1.1.1.1.2, ⟨hk.1.1.1.1.1.2, ⟨hk.1.1.1.1.2, hk.2⟩⟩⟩⟩⟩))))) (Reps.none _ _))))))
            intro v238 w68 ho69 hb hg_ hnew_
            clear hg_ hnew_
            (first | rw [← Ny237.out] at ho69 | (simp only [Int.reduceToNat] at ho69; rw [← Ny237.out] at ho69))
            replace HO212 := zA (kL (zP HO212.out) hb)
            replace HO215 := zA (kL (zP HO215.out) hb)
            replace HO219 := zA (kL (zP HO219.out) hb)
            replace HO223 := zA (kL (zP HO223.out) hb)
            have HO239 := zA (jN ho69 (kP (zT HB.out GE194.out)))
            replace BK194 := zA (zB1 BK194.out hb)
            replace HB := zA (kQ (zT HB.out GE194.out) hb)
            clear HO227 HO230 HO233 HO236 hb ho69
            refine hK.out _ _ ⟨(kV BK194.out 0).trans rfl, (kV BK194.out 1).trans rfl⟩ (fun hHeld => ?_)
            clear hK K
            refine norm_ (a' := ?_) ?_ ?_
            rotate_left
            ·show Act.put _ (some 103) _ = _
             simp only [Act.put, zL, zM, zN, i64_w, i32_w]
             rfl
            refine zp 13 (some 10) #[true, true, true, true, true, true, true, true, true, true, true, true, true, true, false] HT_.out ?_
            refine zp 14 (some 11) #[true, true, true, true, true, true, true, true, true, true, true, true, true, true, true] HT_.out ?_
            refine done_ (done_of HT_.out (by kernel_rfl)) ?_
            try go_wp2
            go_ret2
            exact ⟨_, zr, by (with_reducible repeat (first | apply Kd.N_alloc | apply Kd.N_drewN | apply Kd.N_drew)); exact Kd.N_mono HO239.out (fun _ hk => hk.1), zT HB.out GE194.out⟩
           rw [if_neg c38] at H
           obtain ⟨c38b0, c38b1⟩ := zT2 c38
           simp only [Option.some.injEq, Prod.mk.injEq] at H
           obtain ⟨rfl, rfl⟩ := H
           go_wp2
           go_ret2
           exact ⟨_, zr, by first | exact Kd.S_nil _ _ _ _ _ | exact Kd.N_nil _ _ _ _ _ | exact Kd.V_nil _ _ _ _ _ | exact Kd.Q_nil _ _ _ _ _ | exact jO _ _ _ _ _, zT HB.out GE194.out⟩

/-! ### slices_Equal_int64_int64: function 155 -/
def slices_Equal_int64_int64.l0 : Nat → List Int → List Int → Int → Int → Option (Bool)
 | 0, _, _, _, _ => none
 | k + 1, x0, x1, x12, x13 => if x13 < x12 then (if 0 ≤ x13 then (if x13 < (x0.length : Int) then (if x13 < (x1.length : Int) then (if (rd x0 x13) = (rd x1 x13) then (slices_Equal_int64_int64.l0 k x0 x1 x12 (wrap64 (x13 + 1))) else (some false)) else (none)) else (none)) else (none)) else (some true)
def slices_Equal_int64_int64.f (k : Nat) (l0 : List Int) (l1 : List Int) : Option (Bool) := if (l0.length : Int) = (l1.length : Int) then (slices_Equal_int64_int64.l0 k l0 l1 (l0.length : Int) 0) else (some false)

set_option maxHeartbeats 8000000 in
set_option maxRecDepth 100000 in
theorem slices_Equal_int64_int64.calls (k : Nat) (A0 : Option Addr) (c0 : Nat) (l0 : List Int) (A1 : Option Addr) (c1 : Nat) (l1 : List Int) (r : Bool) (w : World) (hr0 : Kd.C (Kd.int .i64) w A0 l0.length l0) (hc0 : l0.length ≤ c0) (hr1 : Kd.C (Kd.int .i64) w A1 l1.length l1) (hc1 : l1.length ≤ c1) (h : slices_Equal_int64_int64.f k l0 l1 = some r) :
  Calls Tryd.prog 155 #[.slice A0 l0.length c0, .slice A1 l1.length c1] w fun e w' => e = .returned (.bool r) ∧ Drawn0 w w' := by
 have HR0 := zA hr0
 have HC0 := zA hc0
 clear hr0 hc0
 have HR1 := zA hr1
 have HC1 := zA hc1
 clear hr1 hc1
 have H := h
 unfold slices_Equal_int64_int64.f at H
 clear h
 by_cases c3 : (l0.length : Int) = (l1.length : Int)
 ·rw [if_pos c3] at H
  obtain ⟨c3b0, c3b1⟩ := zT1 c3
  have c3b2 : (l0.length == l1.length) = true := by first | simpa using c3 | (simp at c3 ⊢; omega)
  clear c3
  have H' := zA H
  clear H
  go_enter Tryd.func155, Tryd.ntmps155
  go_wp2
  repeat (go_quiet (fail); try go_wp2)
  go_loopg [13] k (fun kq v13 w' => ∃ (x13_1 : Int), v13 = .int .i64 x13_1 ∧ Aside0 (slices_Equal_int64_int64.l0 kq l0 l1 (l0.length : Int) x13_1 = some r) ∧ Aside0 (kq ≤ k) ∧ Drawn0 w w')
  case atStart => exact ⟨(0), zs, H', ⟨Nat.le_refl _⟩, by repeat (first | exact Drawn0.refl _ | apply Drawn0.step)⟩
  case round =>
   clear H'
   try clear c1
   try clear c3
   obtain ⟨x13_1, rfl, HA, HK1, ⟨m1, rfl⟩⟩ := hrel
   cases gk with
   | zero => exact absurd HA.out (by simp [slices_Equal_int64_int64.l0])
   | succ k1 =>
    have H := HA.out
    clear HA
    simp only [slices_Equal_int64_int64.l0] at H
    by_cases c4 : x13_1 < (l0.length : Int)
    ·rw [if_pos c4] at H
     have c4b0 : decide (x13_1 < (l0.length : Int)) = true := decide_eq_true c4
     clear c4
     by_cases c5 : 0 ≤ x13_1
     ·rw [if_pos c5] at H
      have c5b0 : decide (0 ≤ x13_1) = true := decide_eq_true c5
      clear c5
      by_cases c6 : x13_1 < (l0.length : Int)
      ·rw [if_pos c6] at H
       have c6b0 : decide (x13_1 < (l0.length : Int)) = true := decide_eq_true c6
       clear c6
       by_cases c7 : x13_1 < (l1.length : Int)
       ·rw [if_pos c7] at H
        have c7b0 : decide (x13_1 < (l1.length : Int)) = true := decide_eq_true c7
        clear c7
        by_cases c8 : (rd l0 x13_1) = (rd l1 x13_1)
        ·rw [if_pos c8] at H
         obtain ⟨c8b0, c8b1⟩ := zT1 c8
         clear c8
         have H' := zA H
         clear H
         have p309 : 0 ≤ (x13_1 : Int) := zd
         have q309 : x13_1 < (l0.length : Int) := zd
         obtain ⟨ad309, e309, hx309_0⟩ := Kd.at_int HR0.out x13_1 p309 q309
         cases e309
         replace p309 := eq_true p309
         replace q309 := eq_true q309
         have p310 : 0 ≤ (x13_1 : Int) := zd
         have q310 : x13_1 < (l1.length : Int) := zd
         obtain ⟨ad310, e310, hx310_0⟩ := Kd.at_int HR1.out x13_1 p310 q310
         cases e310
         replace p310 := eq_true p310
         replace q310 := eq_true q310
         go_wp2
         repeat (go_quiet (fail); try go_wp2)
         go_roundg k1
         case measure => have := HK1.out; omega
         case rel => exact ⟨(wrap64 (x13_1 + 1)), zs, H', ⟨by have := HK1.out; omega⟩, by repeat (first | exact Drawn0.refl _ | apply Drawn0.step)⟩
        rw [if_neg c8] at H
        obtain ⟨c8b0, c8b1⟩ := zT2 c8
        obtain rfl := Option.some.inj H
        have p309 : 0 ≤ (x13_1 : Int) := zd
        have q309 : x13_1 < (l0.length : Int) := zd
        obtain ⟨ad309, e309, hx309_0⟩ := Kd.at_int HR0.out x13_1 p309 q309
        cases e309
        replace p309 := eq_true p309
        replace q309 := eq_true q309
        have p310 : 0 ≤ (x13_1 : Int) := zd
        have q310 : x13_1 < (l1.length : Int) := zd
        obtain ⟨ad310, e310, hx310_0⟩ := Kd.at_int HR1.out x13_1 p310 q310
        cases e310
        replace p310 := eq_true p310
        replace q310 := eq_true q310
        go_wp2
        repeat (go_quiet (fail); try go_wp2)
        go_ret
        exact ⟨zs, by repeat (first | exact Drawn0.refl _ | apply Drawn0.step)⟩
       rw [if_neg c7] at H
       exact absurd H (by simp)
      rw [if_neg c6] at H
      exact absurd H (by simp)
     rw [if_neg c5] at H
     exact absurd H (by simp)
    rw [if_neg c4] at H
    have c4b0 : decide (x13_1 < (l0.length : Int)) = false := decide_eq_false c4
    clear c4
    obtain rfl := Option.some.inj H
    go_wp2
    repeat (go_quiet (fail); try go_wp2)
    go_ret
    exact ⟨zs, by repeat (first | exact Drawn0.refl _ | apply Drawn0.step)⟩
 rw [if_neg c3] at H
 obtain ⟨c3b0, c3b1⟩ := zT2 c3
 have c3b2 : (l0.length == l1.length) = false := by first | simpa using c3 | (simp at c3 ⊢; omega)
 obtain rfl := Option.some.inj H
 go_enter Tryd.func155, Tryd.ntmps155
 go_wp2
 repeat (go_quiet (fail); try go_wp2)
 go_ret
 exact ⟨zs, by repeat (first | exact Drawn0.refl _ | apply Drawn0.step)⟩

/-! ### impl_ties_same: function 84 -/
def impl_ties_same.f (k : Nat) (l0 : List Int) (l1 : List Int) (l2 : List Int) : Option (Bool) := (impl_ties_normal.f k l0 l1).bind fun t311 => ((impl_ties_normal.f k l0 l2).bind fun t314 => ((slices_Equal_int64_int64.f k t311 t314).bind fun t317 => (some t317)))

set_option maxHeartbeats 8000000 in
set_option maxRecDepth 100000 in
theorem impl_ties_same.calls (k : Nat) (A0 : Option Addr) (c0 : Nat) (l0 : List Int) (A1 : Option Addr) (c1 : Nat) (l1 : List Int) (A2 : Option Addr) (c2 : Nat) (l2 : List Int) (r : Bool) (w : World) (hr0 : Kd.C (Kd.int .i64) w A0 l0.length l0) (hc0 : l0.length ≤ c0) (hr1 : Kd.C (Kd.int .i64) w A1 l1.length l1) (hc1 : l1.length ≤ c1) (hr2 : Kd.C (Kd.int .i64) w A2 l2.length l2) (hc2 : l2.length ≤ c2) (hT : TabW w) (h : impl_ties_same.f k l0 l1 l2 = some r) :
  Calls Tryd.prog 84 #[.slice A0 l0.length c0, .slice A1 l1.length c1, .slice A2 l2.length c2] w fun e w' => e = .returned (.bool r) ∧ Below w.heap.size w w' := by
 have HT := zA hT
 clear hT
 have HR0 := zA hr0
 have HC0 := zA hc0
 clear hr0 hc0
 have HR1 := zA hr1
 have HC1 := zA hc1
 clear hr1 hc1
 have HR2 := zA hr2
 have HC2 := zA hc2
 clear hr2 hc2
 have HB := zA (kW w.heap.size w)
 have H := h
 unfold impl_ties_same.f at H
 clear h
 obtain ⟨t311, A4, H⟩ := zb H
 try dsimp only at H
 obtain ⟨t314, A5, H⟩ := zb H
 try dsimp only at H
 obtain ⟨t317, A6, H⟩ := zb H
 try dsimp only at H
 obtain rfl := Option.some.inj H
 go_enter Tryd.func84, Tryd.ntmps84
 go_wp2_with (first | (refine zO (some 9) Tryd.func88 #[.slice A0 l0.length c0, .slice A1 l1.length c1] ?_; (with_reducible refine (impl_ties_normal.calls k _ _ l0 (fun k_ => k_ < w.heap.size) _ _ l1 t311 _ ?side1 ?side2 ?side3 ?side4 A4.out).mono ?_); (case side1 => exact zS HR0.out); (case side2 => exact HC0.out); (case side3 => exact Kd.V_mk HC1.out (Kd.F_below (Kd.C_F (Kd.heap_int .i64) HR1.out) (zQ HB.out))); (case side4 => exact TabW.below HT.out (zQ HB.out)); rintro e w7 ⟨v312, rfl, ho0, hb⟩; refine ⟨_, rfl, ?_⟩; have HO313 := zA (kI (kA (ok' := fun k_ => True) ho0 (fun _ hk_ => trivial)) (kP (zQ HB.out))); replace HB := zA (kQ (zQ HB.out) hb); (try clear hb); (try clear ho0)) | (refine zO (some 12) Tryd.func88 #[.slice A0 l0.length c0, .slice A2 l2.length c2] ?_; (with_reducible refine (impl_ties_normal.calls k _ _ l0 (fun k_ => k_ < w.heap.size) _ _ l2 t314 _ ?side1 ?side2 ?side3 ?side4 A5.out).mono ?_); (case side1 => exact zS (kO HR0.out HB.out)); (case side2 => exact HC0.out); (case side3 => exact Kd.V_mk HC2.out (Kd.F_below (Kd.C_F (Kd.heap_int .i64) HR2.out) (zQ HB.out))); (case side4 => exact TabW.below HT.out (zQ HB.out)); rintro e w8 ⟨v315, rfl, ho0, hb⟩; refine ⟨_, rfl, ?_⟩; have HO316 := zA (kI (kF (kA (ok' := fun k_ => True) ho0 (fun _ hk_ => trivial)) (kH (zP HO313.out))) (kP (zQ HB.out))); replace HO313 := zA (kE (zP HO313.out) (kC ho0) hb); replace HB := zA (kQ (zQ HB.out) hb); (try clear hb); (try clear ho0); obtain ⟨Ao9, co9, eo9⟩ := kM HO313.out; subst eo9; obtain ⟨Ao10, co10, eo10⟩ := kM HO316.out; subst eo10) | (refine zO (some 13) Tryd.func155 #[.slice Ao9 t311.length co9, .slice Ao10 t314.length co10] ?_; (with_reducible refine (slices_Equal_int64_int64.calls k _ _ t311 _ _ t314 t317 _ ?side1 ?side2 ?side3 ?side4 A6.out).mono ?_); (case side1 => exact zS (kB HO313.out).2.2); (case side2 => exact (kB HO313.out).2.1); (case side3 => exact zS (kB HO316.out).2.2); (case side4 => exact (kB HO316.out).2.1); rintro e w' ⟨rfl, ⟨nd, rfl⟩⟩; refine ⟨_, rfl, ?_⟩))
 go_ret
 exact ⟨zr, zQ HB.out⟩

/-! ### impl_ties_quotient: function 87 -/
def impl_ties_quotient.l0 : Nat → List Int → List Int → List Int → Int → Int → Option (List Int × Bool)
 | 0, _, _, _, _, _ => none
 | k + 1, x0, x2, x10, x11, x12 => if x12 < x11 then (if 0 ≤ x12 then (if x12 < (x10.length : Int) then ((impl_ties_firsts.f k x0 x2).bind fun t334 => ((impl_has.f t334 (rd x10 x12)).bind fun t335 => (if t335 = true then ((impl_withoutFirst.f k x2 (rd x10 x12)).bind fun t336 => (impl_ties_quotient.l0 k x0 t336 x10 x11 (wrap64 (x12 + 1)))) else (some (([] : List Int), false))))) else (none)) else (none)) else (some (x2, true))
def impl_ties_quotient.f (k : Nat) (l0 : List Int) (l1 : List Int) (l2 : List Int) : Option (List Int × Bool) := impl_ties_quotient.l0 k l0 l2 l1 (l1.length : Int) 0

set_option maxHeartbeats 8000000 in
set_option maxRecDepth 100000 in
theorem impl_ties_quotient.calls (k : Nat) (A0 : Option Addr) (c0 : Nat) (l0 : List Int) (A1 : Option Addr) (c1 : Nat) (l1 : List Int) (P2_ : Nat → Prop) (A2 : Option Addr) (c2 : Nat) (l2 : List Int) (r1 : List Int) (r2 : Bool) (w : World) (hr0 : Kd.C (Kd.int .i64) w A0 l0.length l0) (hc0 : l0.length ≤ c0) (hr1 : Kd.C (Kd.int .i64) w A1 l1.length l1) (hc1 : l1.length ≤ c1) (hs2 : Kd.V (Kd.int .i64) 2 w w.heap.size (fun k_ => P2_ k_) (.slice A2 l2.length c2) l2) (h : impl_ties_quotient.f k l0 l1 l2 = some (r1, r2)) :
  Calls Tryd.prog 87 #[.slice A0 l0.length c0, .slice A1 l1.length c1, .slice A2 l2.length c2] w fun e w' => ∃ v0_ : Value, e = .returned (.tuple #[v0_, .bool r2]) ∧ Kd.V (Kd.int .i64) 2 w' w.heap.size (fun k_ => (P2_ k_ ∨ w.heap.size ≤ k_)) v0_ r1 ∧ Below w.heap.size w w' := by
 have HR0 := zA hr0
 have HC0 := zA hc0
 clear hr0 hc0
 have HR1 := zA hr1
 have HC1 := zA hc1
 clear hr1 hc1
 have HO2 := zA (show Kd.V (Kd.int .i64) 2 w w.heap.size (fun k_ => (P2_ k_ ∨ w.heap.size ≤ k_)) (.slice A2 l2.length c2) l2 from kN hs2 (fun k_ hk => .inl hk))
 have HB := zA (kW w.heap.size w)
 have H := h
 unfold impl_ties_quotient.f at H
 clear h
 have H' := zA H
 clear H
 go_enter Tryd.func87, Tryd.ntmps87
 go_wp2
 go_loopg [2, 12] k (fun kq v2 v12 w' => ∃ (x2_1 : List Int) (x12_1 : Int), v12 = .int .i64 x12_1 ∧ Aside0 (impl_ties_quotient.l0 kq l0 x2_1 l1 (l1.length : Int) x12_1 = some (r1, r2)) ∧ Aside0 (kq ≤ k) ∧ Aside0 (Kd.V (Kd.int .i64) 2 w' w.heap.size (fun k_ => (P2_ k_ ∨ w.heap.size ≤ k_)) v2 x2_1) ∧ Aside0 (Below w.heap.size w w'))
 case atStart => exact ⟨(l2), (0), zs, H', ⟨Nat.le_refl _⟩, ⟨zPV HO2.out⟩, ⟨zQ HB.out⟩⟩
 case round =>
  clear H'
  try clear c1
  try clear c2
  obtain ⟨x2_1, x12_1, rfl, HA, HK1, HO_2, HB⟩ := hrel
  cases gk with
  | zero => exact absurd HA.out (by simp [impl_ties_quotient.l0])
  | succ k1 =>
   have H := HA.out
   clear HA
   simp only [impl_ties_quotient.l0] at H
   by_cases c4 : x12_1 < (l1.length : Int)
   ·rw [if_pos c4] at H
    have c4b0 : decide (x12_1 < (l1.length : Int)) = true := decide_eq_true c4
    clear c4
    by_cases c5 : 0 ≤ x12_1
    ·rw [if_pos c5] at H
     have c5b0 : decide (0 ≤ x12_1) = true := decide_eq_true c5
     clear c5
     by_cases c6 : x12_1 < (l1.length : Int)
     ·rw [if_pos c6] at H
      have c6b0 : decide (x12_1 < (l1.length : Int)) = true := decide_eq_true c6
      clear c6
      obtain ⟨t334, A7, H⟩ := zb H
      try dsimp only at H
      obtain ⟨t335, A8, H⟩ := zb H
      try dsimp only at H
      by_cases c9 : t335 = true
      ·subst c9
       rw [if_pos rfl] at H
       obtain ⟨t336, A10, H⟩ := zb H
       try dsimp only at H
       have H' := zA H
       clear H
       have p333 : 0 ≤ (x12_1 : Int) := zd
       have q333 : x12_1 < (l1.length : Int) := zd
       obtain ⟨ad333, e333, hx333_0⟩ := Kd.at_int HR1.out x12_1 p333 q333
       cases e333
       replace hx333_0 := (HB.out.cell (jG w _ hx333_0)).trans hx333_0
       replace p333 := eq_true p333
       replace q333 := eq_true q333
       obtain ⟨Ao11, co11, eo11⟩ := Kd.V_slice HO_2.out
       subst eo11
       go_wp2_with (first | (refine zO (some 18) Tryd.func157 #[.slice A0 l0.length c0, .slice Ao11 x2_1.length co11] ?_; (with_reducible refine (impl_ties_firsts.calls k1 _ _ l0 _ _ x2_1 t334 _ ?side1 ?side2 ?side3 ?side4 A7.out).mono ?_); (case side1 => exact zS (kO HR0.out HB.out)); (case side2 => exact HC0.out); (case side3 => exact zS (kJ HO_2.out).2.2); (case side4 => exact (kJ HO_2.out).2.1); rintro e w' ⟨rfl, ⟨nd, rfl⟩⟩; refine ⟨_, rfl, ?_⟩) | (refine zO (some 20) Tryd.func159 #[.int .i64 t334, .int .i64 (rd l1 x12_1)] ?_; (with_reducible refine (impl_has.calls t334 (rd l1 x12_1) true _ A8.out).mono ?_); rintro e w' ⟨rfl, ⟨nd, rfl⟩⟩; refine ⟨_, rfl, ?_⟩) | (refine zO (some 24) Tryd.func158 #[.slice Ao11 x2_1.length co11, .int .i64 (rd l1 x12_1)] ?_; (with_reducible refine (impl_withoutFirst.calls k1 (fun k_ => (P2_ k_ ∨ w.heap.size ≤ k_)) _ _ x2_1 (rd l1 x12_1) t336 _ ?side1 A10.out).mono ?_); (case side1 => exact HO_2.out); rintro e w12 ⟨v337, rfl, ho0, hb⟩; refine ⟨_, rfl, ?_⟩; replace HO_2 := zA (kK (zPV HO_2.out) (kC ho0) hb); have HO338 := zA (kI (Kd.R_newM (M := fun k_ => (w.heap.size ≤ k_)) (kA (ok' := fun k_ => True) ho0 (fun _ hk_ => trivial)) (kP (zQ HB.out)) (fun k_ h_ => h_)) (kP (zQ HB.out))); replace HB := zA (kQ (zQ HB.out) hb); (try clear hb); (try clear ho0)))
       go_roundg k1
       case measure => have := HK1.out; omega
       case rel => exact ⟨(t336), (wrap64 (x12_1 + 1)), zs, H', ⟨by have := HK1.out; omega⟩, ⟨kN (jL (zP HO338.out)) (fun k_ hk => by first | exact (.inr (hk.1)) | exact ⟨(.inr (hk.1)), hk.2⟩ | exact (.inr (hk)))⟩, ⟨zQ HB.out⟩⟩
      replace c9 := Bool.eq_false_iff.mpr c9
      subst c9
      rw [if_neg (show ¬ (false = true) by decide)] at H
      simp only [Option.some.injEq, Prod.mk.injEq] at H
      obtain ⟨rfl, rfl⟩ := H
      have p333 : 0 ≤ (x12_1 : Int) := zd
      have q333 : x12_1 < (l1.length : Int) := zd
      obtain ⟨ad333, e333, hx333_0⟩ := Kd.at_int HR1.out x12_1 p333 q333
      cases e333
      replace hx333_0 := (HB.out.cell (jG w _ hx333_0)).trans hx333_0
      replace p333 := eq_true p333
      replace q333 := eq_true q333
      obtain ⟨Ao13, co13, eo13⟩ := Kd.V_slice HO_2.out
      subst eo13
      go_wp2_with (first | (refine zO (some 18) Tryd.func157 #[.slice A0 l0.length c0, .slice Ao13 x2_1.length co13] ?_; (with_reducible refine (impl_ties_firsts.calls k1 _ _ l0 _ _ x2_1 t334 _ ?side1 ?side2 ?side3 ?side4 A7.out).mono ?_); (case side1 => exact zS (kO HR0.out HB.out)); (case side2 => exact HC0.out); (case side3 => exact zS (kJ HO_2.out).2.2); (case side4 => exact (kJ HO_2.out).2.1); rintro e w' ⟨rfl, ⟨nd, rfl⟩⟩; refine ⟨_, rfl, ?_⟩) | (refine zO (some 20) Tryd.func159 #[.int .i64 t334, .int .i64 (rd l1 x12_1)] ?_; (with_reducible refine (impl_has.calls t334 (rd l1 x12_1) false _ A8.out).mono ?_); rintro e w' ⟨rfl, ⟨nd, rfl⟩⟩; refine ⟨_, rfl, ?_⟩))
      go_ret2
      exact ⟨_, zr, zn, zQ HB.out⟩
     rw [if_neg c6] at H
     exact absurd H (by simp)
    rw [if_neg c5] at H
    exact absurd H (by simp)
   rw [if_neg c4] at H
   have c4b0 : decide (x12_1 < (l1.length : Int)) = false := decide_eq_false c4
   clear c4
   simp only [Option.some.injEq, Prod.mk.injEq] at H
   obtain ⟨rfl, rfl⟩ := H
   go_wp2
   go_ret2
   exact ⟨_, zr, by (with_reducible repeat (first | apply Kd.V_alloc | apply Kd.V_drewN | apply Kd.V_drew)); exact HO_2.out, zQ HB.out⟩

end Go.Proofs.YthgapkbkhoeleaaDoor.PAll
