import Derived.Test.YtkiacoilecdepaaDoorPAllx0
import Derived.Test.YtkiacoilecdepaaDoorPAllx2
import Derived.Test.YtkiacoilecdepaaDoorPAllx3
namespace Go.Proofs.YtkiacoilecdepaaDoor.PAll
open Go.RowKit Go.Proofs.YtkiacoilecdepaaDoor.T Go.Proofs.YtkiacoilecdepaaDoorW.PrintWords Go.Proofs.YtkiacoilecdepaaDoorW.PrintLast Go.Proofs.YtkiacoilecdepaaDoorW.PrintMore
attribute [local go_sem] max2_int min2_int max_two min_two max_three min_three max_four min_four   -- for this text's walks alone
set_option linter.unusedVariables false
set_option linter.unusedSimpArgs false
mutual
def impl_IsAlphabet.j0 : Nat → Bool → Int → List Int → Option (Bool)
 | 0, _, _, _ => none
 | k + 1, x22, x333000, x333001 => if x22 = true then (some false) else ((impl_converse.f k x333001).bind fun t336 => (impl_IsAlphabet.l0 k t336 (t336.length : Int) 0 x333000 x333001))
def impl_IsAlphabet.l0 : Nat → List Int → Int → Int → Int → List Int → Option (Bool)
 | 0, _, _, _, _, _ => none
 | k + 1, x25, x26, x27, x333000, x333001 => if x27 < x26 then (if 0 ≤ x27 then (if x27 < (x25.length : Int) then (if x27 < (x333001.length : Int) then (if (rd x25 x27) = (rd x333001 x27) then ((impl_has.f (rd x25 x27) x27).bind fun t341 => (if t341 = true then (impl_IsAlphabet.l0 k x25 x26 (wrap64 (x27 + 1)) x333000 x333001) else (some false))) else (some false)) else (none)) else (none)) else (none)) else (some true)
end
def impl_IsAlphabet.f (k : Nat) (a0_0 : Int) (l0_1 : List Int) : Option (Bool) := (impl_inRange.f a0_0 0 8).bind fun t333 => (if t333 = true then ((impl_length_int64.f l0_1).bind fun t334 => (if t334 = a0_0 then ((impl_IsRelation.f l0_1).bind fun t335 => (impl_IsAlphabet.j0 k (!t335) a0_0 l0_1)) else (impl_IsAlphabet.j0 k true a0_0 l0_1))) else (impl_IsAlphabet.j0 k true a0_0 l0_1))
def impl_IsAlphabet.T1 : Bool × List (List Nat × List Nat) := (true, [([], []), ([0], [0]), ([1], [1]), ([2], [2]), ([3, 2], [3]), ([4], [4]), ([5, 4], [4, 5]), ([6, 4, 4], [4, 6]), ([4], [4]), ([8, 4], [4, 8]), ([7, 9, 4], [4, 7, 9]), ([4, 10], [4, 10]), ([11, 7], [11]), ([12], [12]), ([13, 12], [12, 13]), ([14, 12, 12], [12, 14]), ([15, 12], [12, 15]), ([12, 16], [12, 16])])
def impl_IsAlphabet.B1 : List Nat := [0, 1, 3, 7, 15, 31, 63, 127, 31, 287, 1023, 2047, 4095, 8191, 16383, 32767, 65535, 131071]
theorem impl_IsAlphabet.tab1 : rtab .any (opsOf Tryd.f100 1) = impl_IsAlphabet.T1 := by kernel_rfl
theorem impl_IsAlphabet.bits1 : waitsOk impl_IsAlphabet.T1.2 impl_IsAlphabet.B1 = true := by kernel_rfl
set_option maxHeartbeats 8000000 in
set_option maxRecDepth 100000 in
theorem impl_IsAlphabet.calls (k : Nat) (a0_0 : Int) (A0_1 : Option Addr) (c0_1 : Nat) (l0_1 : List Int) (r : Bool) (w : World) (hr0_1 : Kd.C (Kd.int .i64) w A0_1 l0_1.length l0_1) (hc0_1 : l0_1.length ≤ c0_1) (hT : TabW w) (h : impl_IsAlphabet.f k a0_0 l0_1 = some r) :
  Calls Tryd.prog 100 #[.agg #[.int .i64 a0_0, .slice A0_1 l0_1.length c0_1]] w fun e w' => e = .returned (.bool r) ∧ Below w.heap.size w w' := by
 have hu26 := Tryd.underlying26
 have HT := zA hT
 clear hT
 have HR0_1 := zA hr0_1
 have HC0_1 := zA hc0_1
 clear hr0_1 hc0_1
 have HB := zA (kW w.heap.size w)
 have H := h
 unfold impl_IsAlphabet.f at H
 clear h
 have HC2 := zA H
 clear H
 go_enter Tryd.func100, Tryd.ntmps100
 go_upto_region 1 with (first | (refine zBE 1 #[.int .i64 a0_0, .slice A0_1 l0_1.length c0_1] 26 ?_; intro gb332 hg w3 hbox hb; have BK332 := zA (hbox); have GW332 := zA (zBH hg HB.out); have GE332 := zA (zBH hg HB.out); replace HB := zA (kQ (zQ HB.out) hb); clear hb hbox hg))
 (try simp only [Act.put, zL, zM, zN])
 go_cut [22] (fun v22 wc => ∃ (kq : Nat) (x22_1 : Bool), v22 = .bool x22_1 ∧ Aside0 (impl_IsAlphabet.j0 kq x22_1 a0_0 l0_1 = some r) ∧ Aside0 (kq ≤ k) ∧ Aside0 (wc.heap[gb332]? = some (.cells #[.int .i64 a0_0, (.slice A0_1 l0_1.length c0_1)] 26 (0, 0))) ∧ Aside0 (Below w.heap.size w wc))
 case first =>
  have H := HC2.out
  clear HC2
  obtain ⟨t333, A4, H⟩ := zb H
  try dsimp only at H
  by_cases c5 : t333 = true
  ·subst c5
   rw [if_pos rfl] at H
   obtain ⟨t334, A6, H⟩ := zb H
   try dsimp only at H
   by_cases c7 : t334 = a0_0
   ·rw [if_pos c7] at H
    obtain ⟨c7b0, c7b1⟩ := zT1 c7
    clear c7
    (first | rw [c7b0] | (simp only [i64_w, i32_w]; rw [c7b0]) | skip)
    obtain ⟨t335, A8, H⟩ := zb H
    try dsimp only at H
    have H' := zA H
    clear H
    try go_wp2
    replace BK332 := zA (zK BK332.out)
    replace HB := zA (zD HB.out)
    refine start_ (n := 18) (S := fun w' => w'.cell? ⟨gb332, 0, none⟩ = some (.int .i64 a0_0) ∧ w'.cell? ⟨gb332, 1, none⟩ = some (.slice A0_1 l0_1.length c0_1)) (ds := []) #[false, false, false, false, false, false, false, false, false, false, false, false, false, false, false, false, false, false] (by kernel_rfl) rfl rfl ⟨(kV BK332.out 0).trans rfl, (kV BK332.out 1).trans rfl⟩ (fun hHeld => ?_); refine with_tabW impl_IsAlphabet.tab1 impl_IsAlphabet.bits1 (fun HT_ HW_ => ?_)
    generalize w3.drew = w9 at BK332 HB hHeld ⊢
    refine zp 0 (some 5) #[true, false, false, false, false, false, false, false, false, false, false, false, false, false, false, false, false, false] HT_.out ?_
    refine zc 1 (some 6) #[true, true, false, false, false, false, false, false, false, false, false, false, false, false, false, false, false, false] HT_.out HW_.out hHeld ?_
    refine one_ (i := 2) (N := some 7) #[true, true, true, false, false, false, false, false, false, false, false, false, false, false, false, false, false, false] rfl rfl (one_of HT_.out (by kernel_rfl)) (by decide) (fun K hK => ?_)
    refine goes_ Tryd.func111 (by kernel_rfl) rfl #[.int .i64 a0_0, .int .i64 0, .int .i64 8] (by rfl) rfl rfl zg ?_
    with_reducible refine (impl_inRange.calls a0_0 0 8 true _ A4.out).mono ?_
    rintro e w' ⟨rfl, ⟨nd, rfl⟩⟩
    refine ⟨_, rfl, ?_⟩
    refine hK.out _ _ ⟨(kV BK332.out 0).trans rfl, (kV BK332.out 1).trans rfl⟩ (fun hHeld => ?_)
    clear hK K
    refine norm_ (a' := ?_) ?_ ?_
    rotate_left
    ·show Act.put _ (some 7) _ = _
     simp only [Act.put, zL, zM, zN, i64_w, i32_w]
     rfl
    refine zp 3 (some 8) #[true, true, true, true, false, false, false, false, false, false, false, false, false, false, false, false, false, false] HT_.out ?_
    refine zp 4 (some 9) #[true, true, true, true, true, false, false, false, false, false, false, false, false, false, false, false, false, false] HT_.out ?_
    refine zp 5 (some 10) #[true, true, true, true, true, true, false, false, false, false, false, false, false, false, false, false, false, false] HT_.out ?_
    refine zp 8 (some 13) #[true, true, true, true, true, true, false, false, true, false, false, false, false, false, false, false, false, false] HT_.out ?_
    refine zc 6 (some 11) #[true, true, true, true, true, true, true, false, true, false, false, false, false, false, false, false, false, false] HT_.out HW_.out hHeld ?_
    refine zc 9 (some 14) #[true, true, true, true, true, true, true, false, true, true, false, false, false, false, false, false, false, false] HT_.out HW_.out hHeld ?_
    refine one_ (i := 7) (N := some 12) #[true, true, true, true, true, true, true, true, true, true, false, false, false, false, false, false, false, false] rfl rfl (one_of HT_.out (by kernel_rfl)) (by decide) (fun K hK => ?_)
    refine goes_ Tryd.func82 (by kernel_rfl) rfl #[.slice A0_1 l0_1.length c0_1] (by rfl) rfl rfl zg ?_
    with_reducible refine (impl_length_int64.calls _ _ l0_1 t334 _ ?side1 ?side2 A6.out).mono ?_
    (case side1 => exact zS (kO HR0_1.out (zT HB.out GE332.out)))
    (case side2 => exact HC0_1.out)
    rintro e w' ⟨rfl, ⟨nd, rfl⟩⟩
    refine ⟨_, rfl, ?_⟩
    refine hK.out _ _ ⟨(kV BK332.out 0).trans rfl, (kV BK332.out 1).trans rfl⟩ (fun hHeld => ?_)
    clear hK K
    refine norm_ (a' := ?_) ?_ ?_
    rotate_left
    ·show Act.put _ (some 12) _ = _
     simp only [Act.put, zL, zM, zN, i64_w, i32_w]
     rfl
    refine zp 10 (some 15) #[true, true, true, true, true, true, true, true, true, true, true, false, false, false, false, false, false, false] HT_.out ?_
    refine zp 11 (some 16) #[true, true, true, true, true, true, true, true, true, true, true, true, false, false, false, false, false, false] HT_.out ?_
    refine zp 12 (some 17) #[true, true, true, true, true, true, true, true, true, true, true, true, true, false, false, false, false, false] HT_.out ?_
    refine zp 13 (some 18) #[true, true, true, true, true, true, true, true, true, true, true, true, true, true, false, false, false, false] HT_.out ?_
    refine zc 14 (some 19) #[true, true, true, true, true, true, true, true, true, true, true, true, true, true, true, false, false, false] HT_.out HW_.out hHeld ?_
    refine one_ (i := 15) (N := some 20) #[true, true, true, true, true, true, true, true, true, true, true, true, true, true, true, true, false, false] rfl rfl (one_of HT_.out (by kernel_rfl)) (by decide) (fun K hK => ?_)
    refine goes_ Tryd.func124 (by kernel_rfl) rfl #[.slice A0_1 l0_1.length c0_1] (by rfl) rfl rfl zg ?_
    with_reducible refine (impl_IsRelation.calls _ _ l0_1 t335 _ ?side1 ?side2 A8.out).mono ?_
    (case side1 => exact zS (kO HR0_1.out (zT HB.out GE332.out)))
    (case side2 => exact HC0_1.out)
    rintro e w10 ⟨rfl, hb⟩
    refine ⟨_, rfl, ?_⟩
    replace BK332 := zA (zB1 BK332.out hb)
    replace HB := zA (kQ (zT HB.out GE332.out) hb)
    (try clear hb)
    (try clear hb2)
    (try clear hk)
    (try clear hi)
    (try clear hgw)
    refine hK.out _ _ ⟨(kV BK332.out 0).trans rfl, (kV BK332.out 1).trans rfl⟩ (fun hHeld => ?_)
    clear hK K
    refine norm_ (a' := ?_) ?_ ?_
    rotate_left
    ·show Act.put _ (some 20) _ = _
     simp only [Act.put, zL, zM, zN, i64_w, i32_w]
     rfl
    refine zp 16 (some 21) #[true, true, true, true, true, true, true, true, true, true, true, true, true, true, true, true, true, false] HT_.out ?_
    refine zp 17 (some 22) #[true, true, true, true, true, true, true, true, true, true, true, true, true, true, true, true, true, true] HT_.out ?_
    refine done_ (done_of HT_.out (by kernel_rfl)) ?_
    try go_wp2
    go_meet
    case rel => exact ⟨_, (!t335), zs, H', ⟨by first | omega | exact Nat.le_refl _⟩, ⟨zR BK332.out⟩, ⟨zT HB.out GE332.out⟩⟩
   rw [if_neg c7] at H
   obtain ⟨c7b0, c7b1⟩ := zT2 c7
   (first | rw [c7b0] | (simp only [i64_w, i32_w]; rw [c7b0]) | skip)
   have H' := zA H
   clear H
   try go_wp2
   replace BK332 := zA (zK BK332.out)
   replace HB := zA (zD HB.out)
   refine start_ (n := 18) (S := fun w' => w'.cell? ⟨gb332, 0, none⟩ = some (.int .i64 a0_0) ∧ w'.cell? ⟨gb332, 1, none⟩ = some (.slice A0_1 l0_1.length c0_1)) (ds := []) #[false, false, false, false, false, false, false, false, false, false, false, false, false, false, false, false, false, false] (by kernel_rfl) rfl rfl ⟨(kV BK332.out 0).trans rfl, (kV BK332.out 1).trans rfl⟩ (fun hHeld => ?_); refine with_tabW impl_IsAlphabet.tab1 impl_IsAlphabet.bits1 (fun HT_ HW_ => ?_)
   generalize w3.drew = w11 at BK332 HB hHeld ⊢
   refine zp 0 (some 5) #[true, false, false, false, false, false, false, false, false, false, false, false, false, false, false, false, false, false] HT_.out ?_
   refine zc 1 (some 6) #[true, true, false, false, false, false, false, false, false, false, false, false, false, false, false, false, false, false] HT_.out HW_.out hHeld ?_
   refine one_ (i := 2) (N := some 7) #[true, true, true, false, false, false, false, false, false, false, false, false, false, false, false, false, false, false] rfl rfl (one_of HT_.out (by kernel_rfl)) (by decide) (fun K hK => ?_)
   refine goes_ Tryd.func111 (by kernel_rfl) rfl #[.int .i64 a0_0, .int .i64 0, .int .i64 8] (by rfl) rfl rfl zg ?_
   with_reducible refine (impl_inRange.calls a0_0 0 8 true _ A4.out).mono ?_
   rintro e w' ⟨rfl, ⟨nd, rfl⟩⟩
   refine ⟨_, rfl, ?_⟩
   refine hK.out _ _ ⟨(kV BK332.out 0).trans rfl, (kV BK332.out 1).trans rfl⟩ (fun hHeld => ?_)
   clear hK K
   refine norm_ (a' := ?_) ?_ ?_
   rotate_left
   ·show Act.put _ (some 7) _ = _
    simp only [Act.put, zL, zM, zN, i64_w, i32_w]
    rfl
   refine zp 3 (some 8) #[true, true, true, true, false, false, false, false, false, false, false, false, false, false, false, false, false, false] HT_.out ?_
   refine zp 4 (some 9) #[true, true, true, true, true, false, false, false, false, false, false, false, false, false, false, false, false, false] HT_.out ?_
   refine zp 5 (some 10) #[true, true, true, true, true, true, false, false, false, false, false, false, false, false, false, false, false, false] HT_.out ?_
   refine zp 8 (some 13) #[true, true, true, true, true, true, false, false, true, false, false, false, false, false, false, false, false, false] HT_.out ?_
   refine zc 6 (some 11) #[true, true, true, true, true, true, true, false, true, false, false, false, false, false, false, false, false, false] HT_.out HW_.out hHeld ?_
   refine zc 9 (some 14) #[true, true, true, true, true, true, true, false, true, true, false, false, false, false, false, false, false, false] HT_.out HW_.out hHeld ?_
   refine one_ (i := 7) (N := some 12) #[true, true, true, true, true, true, true, true, true, true, false, false, false, false, false, false, false, false] rfl rfl (one_of HT_.out (by kernel_rfl)) (by decide) (fun K hK => ?_)
   refine goes_ Tryd.func82 (by kernel_rfl) rfl #[.slice A0_1 l0_1.length c0_1] (by rfl) rfl rfl zg ?_
   with_reducible refine (impl_length_int64.calls _ _ l0_1 t334 _ ?side1 ?side2 A6.out).mono ?_
   (case side1 => exact zS (kO HR0_1.out (zT HB.out GE332.out)))
   (case side2 => exact HC0_1.out)
   rintro e w' ⟨rfl, ⟨nd, rfl⟩⟩
   refine ⟨_, rfl, ?_⟩
   refine hK.out _ _ ⟨(kV BK332.out 0).trans rfl, (kV BK332.out 1).trans rfl⟩ (fun hHeld => ?_)
   clear hK K
   refine norm_ (a' := ?_) ?_ ?_
   rotate_left
   ·show Act.put _ (some 12) _ = _
    simp only [Act.put, zL, zM, zN, i64_w, i32_w]
    rfl
   refine zp 10 (some 15) #[true, true, true, true, true, true, true, true, true, true, true, false, false, false, false, false, false, false] HT_.out ?_
   refine zp 11 (some 16) #[true, true, true, true, true, true, true, true, true, true, true, true, false, false, false, false, false, false] HT_.out ?_
   refine zp 12 (some 17) #[true, true, true, true, true, true, true, true, true, true, true, true, true, false, false, false, false, false] HT_.out ?_
   refine zu 13 (some 18) #[true, true, true, true, true, true, true, true, true, true, true, true, true, true, false, false, false, false] HT_.out ?_
   refine zu 14 (some 19) #[true, true, true, true, true, true, true, true, true, true, true, true, true, true, true, false, false, false] HT_.out ?_
   refine zu 15 (some 20) #[true, true, true, true, true, true, true, true, true, true, true, true, true, true, true, true, false, false] HT_.out ?_
   refine zu 16 (some 21) #[true, true, true, true, true, true, true, true, true, true, true, true, true, true, true, true, true, false] HT_.out ?_
   refine zp 17 (some 22) #[true, true, true, true, true, true, true, true, true, true, true, true, true, true, true, true, true, true] HT_.out ?_
   refine done_ (done_of HT_.out (by kernel_rfl)) ?_
   try go_wp2
   go_meet
   case rel => exact ⟨_, (true), zs, H', ⟨by first | omega | exact Nat.le_refl _⟩, ⟨zR BK332.out⟩, ⟨zT HB.out GE332.out⟩⟩
  replace c5 := Bool.eq_false_iff.mpr c5
  subst c5
  rw [if_neg (show ¬ (false = true) by decide)] at H
  have H' := zA H
  clear H
  try go_wp2
  replace BK332 := zA (zK BK332.out)
  replace HB := zA (zD HB.out)
  refine start_ (n := 18) (S := fun w' => w'.cell? ⟨gb332, 0, none⟩ = some (.int .i64 a0_0) ∧ w'.cell? ⟨gb332, 1, none⟩ = some (.slice A0_1 l0_1.length c0_1)) (ds := []) #[false, false, false, false, false, false, false, false, false, false, false, false, false, false, false, false, false, false] (by kernel_rfl) rfl rfl ⟨(kV BK332.out 0).trans rfl, (kV BK332.out 1).trans rfl⟩ (fun hHeld => ?_); refine with_tabW impl_IsAlphabet.tab1 impl_IsAlphabet.bits1 (fun HT_ HW_ => ?_)
  generalize w3.drew = w12 at BK332 HB hHeld ⊢
  refine zp 0 (some 5) #[true, false, false, false, false, false, false, false, false, false, false, false, false, false, false, false, false, false] HT_.out ?_
  refine zc 1 (some 6) #[true, true, false, false, false, false, false, false, false, false, false, false, false, false, false, false, false, false] HT_.out HW_.out hHeld ?_
  refine one_ (i := 2) (N := some 7) #[true, true, true, false, false, false, false, false, false, false, false, false, false, false, false, false, false, false] rfl rfl (one_of HT_.out (by kernel_rfl)) (by decide) (fun K hK => ?_)
  refine goes_ Tryd.func111 (by kernel_rfl) rfl #[.int .i64 a0_0, .int .i64 0, .int .i64 8] (by rfl) rfl rfl zg ?_
  with_reducible refine (impl_inRange.calls a0_0 0 8 false _ A4.out).mono ?_
  rintro e w' ⟨rfl, ⟨nd, rfl⟩⟩
  refine ⟨_, rfl, ?_⟩
  refine hK.out _ _ ⟨(kV BK332.out 0).trans rfl, (kV BK332.out 1).trans rfl⟩ (fun hHeld => ?_)
  clear hK K
  refine norm_ (a' := ?_) ?_ ?_
  rotate_left
  ·show Act.put _ (some 7) _ = _
   simp only [Act.put, zL, zM, zN, i64_w, i32_w]
   rfl
  refine zp 3 (some 8) #[true, true, true, true, false, false, false, false, false, false, false, false, false, false, false, false, false, false] HT_.out ?_
  refine zp 4 (some 9) #[true, true, true, true, true, false, false, false, false, false, false, false, false, false, false, false, false, false] HT_.out ?_
  refine zu 5 (some 10) #[true, true, true, true, true, true, false, false, false, false, false, false, false, false, false, false, false, false] HT_.out ?_
  refine zu 6 (some 11) #[true, true, true, true, true, true, true, false, false, false, false, false, false, false, false, false, false, false] HT_.out ?_
  refine zu 7 (some 12) #[true, true, true, true, true, true, true, true, false, false, false, false, false, false, false, false, false, false] HT_.out ?_
  refine zu 8 (some 13) #[true, true, true, true, true, true, true, true, true, false, false, false, false, false, false, false, false, false] HT_.out ?_
  refine zu 9 (some 14) #[true, true, true, true, true, true, true, true, true, true, false, false, false, false, false, false, false, false] HT_.out ?_
  refine zu 10 (some 15) #[true, true, true, true, true, true, true, true, true, true, true, false, false, false, false, false, false, false] HT_.out ?_
  refine zp 11 (some 16) #[true, true, true, true, true, true, true, true, true, true, true, true, false, false, false, false, false, false] HT_.out ?_
  refine zp 12 (some 17) #[true, true, true, true, true, true, true, true, true, true, true, true, true, false, false, false, false, false] HT_.out ?_
  refine zu 13 (some 18) #[true, true, true, true, true, true, true, true, true, true, true, true, true, true, false, false, false, false] HT_.out ?_
  refine zu 14 (some 19) #[true, true, true, true, true, true, true, true, true, true, true, true, true, true, true, false, false, false] HT_.out ?_
  refine zu 15 (some 20) #[true, true, true, true, true, true, true, true, true, true, true, true, true, true, true, true, false, false] HT_.out ?_
  refine zu 16 (some 21) #[true, true, true, true, true, true, true, true, true, true, true, true, true, true, true, true, true, false] HT_.out ?_
  refine zp 17 (some 22) #[true, true, true, true, true, true, true, true, true, true, true, true, true, true, true, true, true, true] HT_.out ?_
  refine done_ (done_of HT_.out (by kernel_rfl)) ?_
  try go_wp2
  go_meet
  case rel => exact ⟨_, (true), zs, H', ⟨by first | omega | exact Nat.le_refl _⟩, ⟨zR BK332.out⟩, ⟨zT HB.out GE332.out⟩⟩
 case rest =>
  clear HC2
  try clear c1
  try clear c5
  try clear c7
  try clear c8
  try clear c10
  try clear c11
  try clear c12
  obtain ⟨kq, x22_1, rfl, HA, HJ1, BK332, HB⟩ := hcut
  cases kq with
  | zero => exact absurd HA.out (by simp [impl_IsAlphabet.j0])
  | succ kj1 =>
   have H := HA.out
   clear HA
   simp only [impl_IsAlphabet.j0] at H
   by_cases c13 : x22_1 = true
   ·subst c13
    rw [if_pos rfl] at H
    obtain rfl := Option.some.inj H
    go_wp2
    go_ret
    exact ⟨zr, zT HB.out GE332.out⟩
   replace c13 := Bool.eq_false_iff.mpr c13
   subst c13
   rw [if_neg (show ¬ (false = true) by decide)] at H
   obtain ⟨t336, A14, H⟩ := zb H
   try dsimp only at H
   have H' := zA H
   clear H
   obtain ⟨hcz15_0, hcz15_1, hfz15_0, hfz15_1⟩ := zB3 BK332.out
   go_wp2_with (first | (refine zO (some 25) Tryd.func85 #[.slice A0_1 l0_1.length c0_1] ?_; (with_reducible refine (impl_converse.calls kj1 _ _ l0_1 t336 _ ?side1 ?side2 ?side3 A14.out).mono ?_); (case side1 => exact zS (kO HR0_1.out HB.out)); (case side2 => exact HC0_1.out); (case side3 => exact TabW.below HT.out (zT HB.out GE332.out)); rintro e w16 ⟨v337, rfl, ho0, hb⟩; refine ⟨_, rfl, ?_⟩; have HO338 := zA (kI ho0 (kP (zT HB.out GE332.out))); replace BK332 := zA (zB1 BK332.out hb); replace HB := zA (kQ (zT HB.out GE332.out) hb); (try clear hb); (try clear ho0); obtain ⟨Ao17, co17, eo17⟩ := kM HO338.out; subst eo17))
   go_loopg [27] kj1 (fun kq v27 w' => ∃ (x27_2 : Int), v27 = .int .i64 x27_2 ∧ Aside0 (impl_IsAlphabet.l0 kq t336 (t336.length : Int) x27_2 a0_0 l0_1 = some r) ∧ Aside0 (kq ≤ kj1) ∧ Aside0 (Kd.R (Kd.int .i64) 2 w' w.heap.size (fun _ => True) (.slice Ao17 t336.length co17) t336) ∧ Aside0 (w'.heap[gb332]? = some (.cells #[.int .i64 a0_0, (.slice A0_1 l0_1.length c0_1)] 26 (0, 0))) ∧ Aside0 (Below w.heap.size w w'))
   case atStart => exact ⟨(0), zs, H', ⟨Nat.le_refl _⟩, ⟨zP HO338.out⟩, ⟨zR BK332.out⟩, ⟨zT HB.out GE332.out⟩⟩
   case round =>
    clear H'
    try clear c1
    try clear c5
    try clear c7
    try clear c8
    try clear c10
    try clear c11
    try clear c12
    try clear c13
    try clear hcz15_0
    try clear hcz15_1
    try clear hfz15_0
    try clear hfz15_1
    obtain ⟨x27_2, rfl, HA, HK2, HO_25, BK332, HB⟩ := hrel
    cases gk with
    | zero => exact absurd HA.out (by simp [impl_IsAlphabet.l0])
    | succ k2 =>
     have H := HA.out
     clear HA
     simp only [impl_IsAlphabet.l0] at H
     by_cases c18 : x27_2 < (t336.length : Int)
     ·rw [if_pos c18] at H
      have c18b0 : decide (x27_2 < (t336.length : Int)) = true := decide_eq_true c18
      clear c18
      by_cases c19 : 0 ≤ x27_2
      ·rw [if_pos c19] at H
       have c19b0 : decide (0 ≤ x27_2) = true := decide_eq_true c19
       clear c19
       by_cases c20 : x27_2 < (t336.length : Int)
       ·rw [if_pos c20] at H
        have c20b0 : decide (x27_2 < (t336.length : Int)) = true := decide_eq_true c20
        clear c20
        by_cases c21 : x27_2 < (l0_1.length : Int)
        ·rw [if_pos c21] at H
         have c21b0 : decide (x27_2 < (l0_1.length : Int)) = true := decide_eq_true c21
         clear c21
         by_cases c22 : (rd t336 x27_2) = (rd l0_1 x27_2)
         ·rw [if_pos c22] at H
          obtain ⟨c22b0, c22b1⟩ := zT1 c22
          clear c22
          obtain ⟨t341, A23, H⟩ := zb H
          try dsimp only at H
          by_cases c24 : t341 = true
          ·subst c24
           rw [if_pos rfl] at H
           have H' := zA H
           clear H
           have p339 : 0 ≤ (x27_2 : Int) := zd
           have q339 : x27_2 < (t336.length : Int) := zd
           obtain ⟨ad339, e339, hx339_0⟩ := Kd.at_int (kB HO_25.out).2.2 x27_2 p339 q339
           cases e339
           replace p339 := eq_true p339
           replace q339 := eq_true q339
           obtain ⟨hcz25_0, hcz25_1, hfz25_0, hfz25_1⟩ := zB3 BK332.out
           have p340 : 0 ≤ (x27_2 : Int) := zd
           have q340 : x27_2 < (l0_1.length : Int) := zd
           obtain ⟨ad340, e340, hx340_0⟩ := Kd.at_int HR0_1.out x27_2 p340 q340
           cases e340
           replace hx340_0 := (HB.out.cell (jG w _ hx340_0)).trans hx340_0
           replace p340 := eq_true p340
           replace q340 := eq_true q340
           go_wp2_with (first | (go_at_call 104; (with_reducible refine (impl_has.calls (rd t336 x27_2) x27_2 true _ A23.out).mono ?_); rintro e w' ⟨rfl, ⟨nd, rfl⟩⟩))
           go_roundg k2
           case measure => have := HJ1.out; have := HK2.out; omega
           case rel => exact ⟨(wrap64 (x27_2 + 1)), zs, H', ⟨by have := HJ1.out; have := HK2.out; omega⟩, ⟨zP HO_25.out⟩, ⟨zR BK332.out⟩, ⟨zT HB.out GE332.out⟩⟩
          replace c24 := Bool.eq_false_iff.mpr c24
          subst c24
          rw [if_neg (show ¬ (false = true) by decide)] at H
          obtain rfl := Option.some.inj H
          have p339 : 0 ≤ (x27_2 : Int) := zd
          have q339 : x27_2 < (t336.length : Int) := zd
          obtain ⟨ad339, e339, hx339_0⟩ := Kd.at_int (kB HO_25.out).2.2 x27_2 p339 q339
          cases e339
          replace p339 := eq_true p339
          replace q339 := eq_true q339
          obtain ⟨hcz26_0, hcz26_1, hfz26_0, hfz26_1⟩ := zB3 BK332.out
          have p340 : 0 ≤ (x27_2 : Int) := zd
          have q340 : x27_2 < (l0_1.length : Int) := zd
          obtain ⟨ad340, e340, hx340_0⟩ := Kd.at_int HR0_1.out x27_2 p340 q340
          cases e340
          replace hx340_0 := (HB.out.cell (jG w _ hx340_0)).trans hx340_0
          replace p340 := eq_true p340
          replace q340 := eq_true q340
          go_wp2_with (first | (go_at_call 104; (with_reducible refine (impl_has.calls (rd t336 x27_2) x27_2 false _ A23.out).mono ?_); rintro e w' ⟨rfl, ⟨nd, rfl⟩⟩))
          go_ret
          exact ⟨zr, zT HB.out GE332.out⟩
         rw [if_neg c22] at H
         obtain ⟨c22b0, c22b1⟩ := zT2 c22
         obtain rfl := Option.some.inj H
         have p339 : 0 ≤ (x27_2 : Int) := zd
         have q339 : x27_2 < (t336.length : Int) := zd
         obtain ⟨ad339, e339, hx339_0⟩ := Kd.at_int (kB HO_25.out).2.2 x27_2 p339 q339
         cases e339
         replace p339 := eq_true p339
         replace q339 := eq_true q339
         obtain ⟨hcz27_0, hcz27_1, hfz27_0, hfz27_1⟩ := zB3 BK332.out
         have p340 : 0 ≤ (x27_2 : Int) := zd
         have q340 : x27_2 < (l0_1.length : Int) := zd
         obtain ⟨ad340, e340, hx340_0⟩ := Kd.at_int HR0_1.out x27_2 p340 q340
         cases e340
         replace hx340_0 := (HB.out.cell (jG w _ hx340_0)).trans hx340_0
         replace p340 := eq_true p340
         replace q340 := eq_true q340
         go_wp2
         go_ret
         exact ⟨zr, zT HB.out GE332.out⟩
        rw [if_neg c21] at H
        exact absurd H (by simp)
       rw [if_neg c20] at H
       exact absurd H (by simp)
      rw [if_neg c19] at H
      exact absurd H (by simp)
     rw [if_neg c18] at H
     have c18b0 : decide (x27_2 < (t336.length : Int)) = false := decide_eq_false c18
     clear c18
     obtain rfl := Option.some.inj H
     go_wp2
     go_ret
     exact ⟨zr, zT HB.out GE332.out⟩
def impl_isWord.f (a0_0 : Int) (l0_1 : List Int) (l1 : List Int) : Option (Bool) := if (l1.length : Int) ≤ 24 then ((impl_allIn.f l1 0 (wrap64 (a0_0 - 1))).bind fun t343 => (some t343)) else (some false)
set_option maxHeartbeats 8000000 in
set_option maxRecDepth 100000 in
theorem impl_isWord.calls (a0_0 : Int) (A0_1 : Option Addr) (c0_1 : Nat) (l0_1 : List Int) (A1 : Option Addr) (c1 : Nat) (l1 : List Int) (r : Bool) (w : World) (hr0_1 : Kd.C (Kd.int .i64) w A0_1 l0_1.length l0_1) (hc0_1 : l0_1.length ≤ c0_1) (hr1 : Kd.C (Kd.int .i64) w A1 l1.length l1) (hc1 : l1.length ≤ c1) (h : impl_isWord.f a0_0 l0_1 l1 = some r) :
  Calls Tryd.prog 103 #[.agg #[.int .i64 a0_0, .slice A0_1 l0_1.length c0_1], .slice A1 l1.length c1] w fun e w' => e = .returned (.bool r) ∧ Below w.heap.size w w' := by
 have hu26 := Tryd.underlying26
 have HR0_1 := zA hr0_1
 have HC0_1 := zA hc0_1
 clear hr0_1 hc0_1
 have HR1 := zA hr1
 have HC1 := zA hc1
 clear hr1 hc1
 have HB := zA (kW w.heap.size w)
 have H := h
 unfold impl_isWord.f at H
 clear h
 by_cases c3 : (l1.length : Int) ≤ 24
 ·rw [if_pos c3] at H
  have c3b0 : decide ((l1.length : Int) ≤ 24) = true := decide_eq_true c3
  have c3b1 : decide (l1.length ≤ 24) = true := decide_eq_true (by omega)
  clear c3
  obtain ⟨t343, A4, H⟩ := zb H
  try dsimp only at H
  obtain rfl := Option.some.inj H
  go_enter Tryd.func103, Tryd.ntmps103
  go_wp2_with (first | (refine zBE 2 #[.int .i64 a0_0, .slice A0_1 l0_1.length c0_1] 26 ?_; intro gb342 hg w5 hbox hb; have BK342 := zA (hbox); have GW342 := zA (zBH hg HB.out); have GE342 := zA (zBH hg HB.out); replace HB := zA (kQ (zQ HB.out) hb); clear hb hbox hg; obtain ⟨hcz6_0, hcz6_1, hfz6_0, hfz6_1⟩ := zB3 BK342.out) | (go_at_call 126; (with_reducible refine (impl_allIn.calls _ _ l1 0 (wrap64 (a0_0 - 1)) t343 _ ?side1 ?side2 A4.out).mono ?_); (case side1 => exact zS (kO HR1.out HB.out)); (case side2 => exact HC1.out); rintro e w7 ⟨rfl, hb⟩; replace BK342 := zA (zB1 BK342.out hb); replace HB := zA (kQ (zT HB.out GE342.out) hb); (try clear hb)))
  go_ret
  exact ⟨zr, zT HB.out GE342.out⟩
 rw [if_neg c3] at H
 have c3b0 : decide ((l1.length : Int) ≤ 24) = false := decide_eq_false c3
 have c3b1 : decide (l1.length ≤ 24) = false := decide_eq_false (by omega)
 clear c3
 obtain rfl := Option.some.inj H
 go_enter Tryd.func103, Tryd.ntmps103
 go_wp2_with (first | (refine zBE 2 #[.int .i64 a0_0, .slice A0_1 l0_1.length c0_1] 26 ?_; intro gb342 hg w8 hbox hb; have BK342 := zA (hbox); have GW342 := zA (zBH hg HB.out); have GE342 := zA (zBH hg HB.out); replace HB := zA (kQ (zQ HB.out) hb); clear hb hbox hg))
 go_ret
 exact ⟨zr, zT HB.out GE342.out⟩
def wordB (n : Int) (w : List Int) : Bool := decide (w.length ≤ 24) && w.all fun x => decide (0 ≤ x ∧ x ≤ wrap64 (n - 1))
def impl_checkWords.f (k : Nat) (a0_0 : Int) (l0_1 : List Int) (l1 : List (List Int)) : Option Int :=
 (impl_IsAlphabet.f k a0_0 l0_1).bind fun t => some (if t = true then (if l1.all (wordB a0_0) = true then 0 else 2) else 1)
theorem isWord_some (n : Int) (D w : List Int) : impl_isWord.f n D w = some (wordB n w) := by
 unfold impl_isWord.f wordB
 by_cases h : w.length ≤ 24
 ·rw [if_pos (by omega)]
  simp [h, impl_allIn.f]
 rw [if_neg (by omega)]
 simp [h]
theorem checkWords_pred (n : Int) (A : Option Addr) (c : Nat) (D : List Int) (B : Nat) (w : World) (hB : B < w.heap.size) (hD : (Kd.int .i64).C w A D.length D) (hc : D.length ≤ c)
  (h0 : w.cell? ⟨B, 0, none⟩ = some (.int .i64 n)) (h1 : w.cell? ⟨B, 1, none⟩ = some (.slice A D.length c)) :
  PredL 102 #[.pointer (some ⟨B, 0, none⟩)] (fun x => !wordB n x) w := fun W A2 c2 x hb hx hcx => by
 have k0 : W.cell? ⟨B, 0, none⟩ = some (.int .i64 n) := (hb.cell (p := ⟨B, 0, none⟩) hB).trans h0
 have k1 : W.cell? ⟨B, 1, none⟩ = some (.slice A D.length c) := (hb.cell (p := ⟨B, 1, none⟩) hB).trans h1
 have hcall := impl_isWord.calls n A c D A2 c2 x (wordB n x) W (kO hD hb) hc hx hcx (isWord_some n D x)
 replace hcall := zA hcall
 clear h0 h1 hb hx hcx hD hc
 show Calls Tryd.prog 102 #[.slice A2 x.length c2, .pointer (some ⟨B, 0, none⟩)] W fun e W' => e = .returned (.bool (!wordB n x)) ∧ Below W.heap.size W W'
 generalize wordB n x = b at hcall ⊢
 have hu := Tryd.underlying26
 go_enter Tryd.func102, Tryd.ntmps102
 go_wp2_with fail
 refine hcall.out.mono ?_
 rintro e w' ⟨rfl, hb⟩
 replace hb := zA hb
 clear hcall
 go_wp2
 go_ret
 exact ⟨rfl, hb.out⟩
theorem impl_checkWords.calls (k : Nat) (a0_0 : Int) (A0_1 : Option Addr) (c0_1 : Nat) (l0_1 : List Int) (A1 : Option Addr) (c1 : Nat) (l1 : List (List Int)) (r : Int) (w : World) (hr0_1 : Kd.C (Kd.int .i64) w A0_1 l0_1.length l0_1) (hc0_1 : l0_1.length ≤ c0_1)
  (hr1 : Kd.C (Kd.slice 24 (Kd.int .i64)) w A1 l1.length l1) (hc1 : l1.length ≤ c1) (hT : TabW w) (h : impl_checkWords.f k a0_0 l0_1 l1 = some r) :
  Calls Tryd.prog 49 #[.agg #[.int .i64 a0_0, .slice A0_1 l0_1.length c0_1], .slice A1 l1.length c1] w fun e w' => e = .returned (.int .i64 r) ∧ Below w.heap.size w w' := by
 obtain ⟨t, ht, hr⟩ := Option.bind_eq_some_iff.mp h
 clear h
 have hW : Below w.heap.size w (w.alloc (.cells #[.int .i64 a0_0, .slice A0_1 l0_1.length c0_1] 26)) := zB (kW _ w) _
 have hal := zA (impl_IsAlphabet.calls k a0_0 A0_1 c0_1 l0_1 t (w.alloc (.cells #[.int .i64 a0_0, .slice A0_1 l0_1.length c0_1] 26)) (kO hr0_1 hW) hc0_1 (hT.below hW) ht)
 have eg : ∀ args w, (callFunc 102 args).run Tryd.prog w = .ok (.enter 102 args) w := enters_fn Tryd.func102 (by kernel_rfl) rfl
 have hcon := zA (fun (W : World) (hb : Below (w.alloc (.cells #[.int .i64 a0_0, .slice A0_1 l0_1.length c0_1] 26)).heap.size (w.alloc (.cells #[.int .i64 a0_0, .slice A0_1 l0_1.length c0_1] 26)) W) =>
  containsFuncL_any A1 c1 l1 102 #[.pointer (some ⟨w.heap.size, 0, none⟩)] (fun x => !wordB a0_0 x) W eg
  (checkWords_pred a0_0 A0_1 c0_1 l0_1 w.heap.size W (Nat.lt_of_lt_of_le (by simp) hb.size) (kO (kO hr0_1 hW) hb) hc0_1 ((hb.cell (p := ⟨w.heap.size, 0, none⟩) (by simp)).trans (by simp)) ((hb.cell (p := ⟨w.heap.size, 1, none⟩) (by simp)).trans (by simp))) (kO (kO hr1 hW) hb))
 replace hW := zA hW
 clear ht eg hr0_1 hr1 hc1 hc0_1 hT
 have hany : (l1.any fun x => !wordB a0_0 x) = !(l1.all (wordB a0_0)) := by rw [List.all_eq_not_any_not]; simp
 rw [hany] at hcon
 clear hany
 generalize l1.all (wordB a0_0) = b at hcon hr
 have hu := Tryd.underlying26
 cases t with
 | false =>
  rw [if_neg (by decide)] at hr
  obtain rfl := Option.some.inj hr
  clear hr
  go_enter Tryd.func49, Tryd.ntmps49
  go_wp2_with fail
  refine hal.out.mono ?_
  rintro e w' ⟨rfl, hb⟩
  replace hb := zA hb
  clear hal hcon
  go_wp2
  go_ret
  exact ⟨rfl, kQ hW.out hb.out⟩
 | true =>
  rw [if_pos rfl] at hr
  cases b with
  | false =>
   rw [if_neg (by decide)] at hr
   obtain rfl := Option.some.inj hr
   clear hr
   go_enter Tryd.func49, Tryd.ntmps49
   go_wp2_with fail
   refine hal.out.mono ?_
   rintro e w' ⟨rfl, hb⟩
   replace hb := zA hb
   clear hal
   go_wp2_with fail
   refine (hcon.out _ hb.out).mono ?_
   rintro e w'' ⟨rfl, hb2⟩
   replace hb2 := zA hb2
   clear hcon
   go_wp2
   go_ret
   exact ⟨rfl, kQ (kQ hW.out hb.out) hb2.out⟩
  | true =>
   rw [if_pos rfl] at hr
   obtain rfl := Option.some.inj hr
   clear hr
   go_enter Tryd.func49, Tryd.ntmps49
   go_wp2_with fail
   refine hal.out.mono ?_
   rintro e w' ⟨rfl, hb⟩
   replace hb := zA hb
   clear hal
   go_wp2_with fail
   refine (hcon.out _ hb.out).mono ?_
   rintro e w'' ⟨rfl, hb2⟩
   replace hb2 := zA hb2
   clear hcon
   go_wp2
   go_ret
   exact ⟨rfl, kQ (kQ hW.out hb.out) hb2.out⟩
def impl_Alphabet_ties.f (a0_0 : Int) (l0_1 : List Int) : Option (List Int) := some l0_1
set_option maxHeartbeats 8000000 in
set_option maxRecDepth 100000 in
theorem impl_Alphabet_ties.calls (a0_0 : Int) (P0_1_ : Nat → Prop) (A0_1 : Option Addr) (c0_1 : Nat) (l0_1 : List Int) (r : List Int) (w : World) (hs0_1 : Kd.V (Kd.int .i64) 2 w w.heap.size (fun k_ => P0_1_ k_) (.slice A0_1 l0_1.length c0_1) l0_1) (h : impl_Alphabet_ties.f a0_0 l0_1 = some r) :
  Calls Tryd.prog 50 #[.agg #[.int .i64 a0_0, .slice A0_1 l0_1.length c0_1]] w fun e w' => ∃ v0_ : Value, e = .returned (v0_) ∧ Kd.V (Kd.int .i64) 2 w' w.heap.size (fun k_ => (P0_1_ k_ ∨ w.heap.size ≤ k_)) v0_ r ∧ Below w.heap.size w w' := by
 have hu26 := Tryd.underlying26
 have HO0_1 := zA (show Kd.V (Kd.int .i64) 2 w w.heap.size (fun k_ => (P0_1_ k_ ∨ w.heap.size ≤ k_)) (.slice A0_1 l0_1.length c0_1) l0_1 from kN hs0_1 (fun k_ hk => .inl hk))
 have HB := zA (kW w.heap.size w)
 have H := h
 unfold impl_Alphabet_ties.f at H
 clear h
 obtain rfl := Option.some.inj H
 go_enter Tryd.func50, Tryd.ntmps50
 go_wp2_with (first | (refine zBE 1 #[.int .i64 a0_0, .slice A0_1 l0_1.length c0_1] 26 ?_; intro gb344 hg w2 hbox hb; replace HO0_1 := zA (kG (jD (zPV HO0_1.out) gb344 (Nat.le_of_eq hg.symm)) hb); have BK344 := zA (hbox); have GW344 := zA (zBH hg HB.out); have GE344 := zA (zBH hg HB.out); replace HB := zA (kQ (zQ HB.out) hb); clear hb hbox hg; obtain ⟨hcz3_0, hcz3_1, hfz3_0, hfz3_1⟩ := zB3 BK344.out))
 go_ret
 exact ⟨_, zr, by (with_reducible repeat (first | apply Kd.V_alloc | apply Kd.V_drewN | apply Kd.V_drew)); exact kN HO0_1.out (fun _ hk => hk.1), zT HB.out GE344.out⟩
def impl_ties_firsts.l0 : Nat → List Int → Int → Int → List Int → Int → Int → Option (Int)
 | 0, _, _, _, _, _, _ => none
 | k + 1, x0, x5, x6, x9, x10, x11 => if x11 < x10 then (if 0 ≤ x11 then (if x11 < (x9.length : Int) then ((impl_has.f x6 (rd x9 x11)).bind fun t346 => (if t346 = true then (if 0 ≤ (rd x9 x11) then (if (rd x9 x11) < (x0.length : Int) then (impl_ties_firsts.l0 k x0 x5 (Go.bits .or .i64 x6 (rd x0 (rd x9 x11))) x9 x10 (wrap64 (x11 + 1))) else (none)) else (none)) else ((impl_one.f (rd x9 x11)).bind fun t348 => (if 0 ≤ (rd x9 x11) then (if (rd x9 x11) < (x0.length : Int) then (impl_ties_firsts.l0 k x0 (Go.bits .or .i64 x5 t348) (Go.bits .or .i64 x6 (rd x0 (rd x9 x11))) x9 x10 (wrap64 (x11 + 1))) else (none)) else (none))))) else (none)) else (none)) else (some x5)
def impl_ties_firsts.f (k : Nat) (l0 : List Int) (l1 : List Int) : Option (Int) := impl_ties_firsts.l0 k l0 0 0 l1 (l1.length : Int) 0
set_option maxHeartbeats 8000000 in
set_option maxRecDepth 100000 in
theorem impl_ties_firsts.calls (k : Nat) (A0 : Option Addr) (c0 : Nat) (l0 : List Int) (A1 : Option Addr) (c1 : Nat) (l1 : List Int) (r : Int) (w : World) (hr0 : Kd.C (Kd.int .i64) w A0 l0.length l0) (hc0 : l0.length ≤ c0) (hr1 : Kd.C (Kd.int .i64) w A1 l1.length l1) (hc1 : l1.length ≤ c1) (h : impl_ties_firsts.f k l0 l1 = some r) :
  Calls Tryd.prog 51 #[.slice A0 l0.length c0, .slice A1 l1.length c1] w fun e w' => e = .returned (.int .i64 r) ∧ Drawn0 w w' := by
 have HR0 := zA hr0
 have HC0 := zA hc0
 clear hr0 hc0
 have HR1 := zA hr1
 have HC1 := zA hc1
 clear hr1 hc1
 have H := h
 unfold impl_ties_firsts.f at H
 clear h
 have H' := zA H
 clear H
 go_enter Tryd.func51, Tryd.ntmps51
 go_wp2
 go_loopg [5, 6, 11] k (fun kq v5 v6 v11 w' => ∃ (x5_1 : Int) (x6_1 : Int) (x11_1 : Int), v5 = .int .i64 x5_1 ∧ v6 = .int .i64 x6_1 ∧ v11 = .int .i64 x11_1 ∧ Aside0 (impl_ties_firsts.l0 kq l0 x5_1 x6_1 l1 (l1.length : Int) x11_1 = some r) ∧ Aside0 (kq ≤ k) ∧ Drawn0 w w')
 case atStart => exact ⟨(0), (0), (0), zs, zs, zs, H', ⟨Nat.le_refl _⟩, by repeat (first | exact Drawn0.refl _ | apply Drawn0.step)⟩
 case round =>
  clear H'
  try clear c1
  obtain ⟨x5_1, x6_1, x11_1, rfl, rfl, rfl, HA, HK1, ⟨m1, rfl⟩⟩ := hrel
  cases gk with
  | zero => exact absurd HA.out (by simp [impl_ties_firsts.l0])
  | succ k1 =>
   have H := HA.out
   clear HA
   simp only [impl_ties_firsts.l0] at H
   by_cases c3 : x11_1 < (l1.length : Int)
   ·rw [if_pos c3] at H
    have c3b0 : decide (x11_1 < (l1.length : Int)) = true := decide_eq_true c3
    clear c3
    by_cases c4 : 0 ≤ x11_1
    ·rw [if_pos c4] at H
     have c4b0 : decide (0 ≤ x11_1) = true := decide_eq_true c4
     clear c4
     by_cases c5 : x11_1 < (l1.length : Int)
     ·rw [if_pos c5] at H
      have c5b0 : decide (x11_1 < (l1.length : Int)) = true := decide_eq_true c5
      clear c5
      obtain ⟨t346, A6, H⟩ := zb H
      try dsimp only at H
      by_cases c7 : t346 = true
      ·subst c7
       rw [if_pos rfl] at H
       by_cases c8 : 0 ≤ (rd l1 x11_1)
       ·rw [if_pos c8] at H
        have c8b0 : decide (0 ≤ (rd l1 x11_1)) = true := decide_eq_true c8
        clear c8
        by_cases c9 : (rd l1 x11_1) < (l0.length : Int)
        ·rw [if_pos c9] at H
         have c9b0 : decide ((rd l1 x11_1) < (l0.length : Int)) = true := decide_eq_true c9
         clear c9
         have H' := zA H
         clear H
         have p345 : 0 ≤ (x11_1 : Int) := zd
         have q345 : x11_1 < (l1.length : Int) := zd
         obtain ⟨ad345, e345, hx345_0⟩ := Kd.at_int HR1.out x11_1 p345 q345
         cases e345
         replace p345 := eq_true p345
         replace q345 := eq_true q345
         go_wp2_with (first | (refine zO (some 17) Tryd.func104 #[.int .i64 x6_1, .int .i64 (rd l1 x11_1)] ?_; (with_reducible refine (impl_has.calls x6_1 (rd l1 x11_1) true _ A6.out).mono ?_); rintro e w' ⟨rfl, ⟨nd, rfl⟩⟩; refine ⟨_, rfl, ?_⟩; have p347 : 0 ≤ ((rd l1 x11_1) : Int) := zd; have q347 : (rd l1 x11_1) < (l0.length : Int) := zd; obtain ⟨ad347, e347, hx347_0⟩ := Kd.at_int HR0.out (rd l1 x11_1) p347 q347; cases e347; replace p347 := eq_true p347; replace q347 := eq_true q347))
         go_roundg k1
         case measure => have := HK1.out; omega
         case rel => exact ⟨(x5_1), (Go.bits .or .i64 x6_1 (rd l0 (rd l1 x11_1))), (wrap64 (x11_1 + 1)), zs, zs, zs, H', ⟨by have := HK1.out; omega⟩, by repeat (first | exact Drawn0.refl _ | apply Drawn0.step)⟩
        rw [if_neg c9] at H
        exact absurd H (by simp)
       rw [if_neg c8] at H
       exact absurd H (by simp)
      replace c7 := Bool.eq_false_iff.mpr c7
      subst c7
      rw [if_neg (show ¬ (false = true) by decide)] at H
      obtain ⟨t348, A10, H⟩ := zb H
      try dsimp only at H
      by_cases c11 : 0 ≤ (rd l1 x11_1)
      ·rw [if_pos c11] at H
       have c11b0 : decide (0 ≤ (rd l1 x11_1)) = true := decide_eq_true c11
       clear c11
       by_cases c12 : (rd l1 x11_1) < (l0.length : Int)
       ·rw [if_pos c12] at H
        have c12b0 : decide ((rd l1 x11_1) < (l0.length : Int)) = true := decide_eq_true c12
        clear c12
        have H' := zA H
        clear H
        have p345 : 0 ≤ (x11_1 : Int) := zd
        have q345 : x11_1 < (l1.length : Int) := zd
        obtain ⟨ad345, e345, hx345_0⟩ := Kd.at_int HR1.out x11_1 p345 q345
        cases e345
        replace p345 := eq_true p345
        replace q345 := eq_true q345
        go_wp2_with (first | (refine zO (some 17) Tryd.func104 #[.int .i64 x6_1, .int .i64 (rd l1 x11_1)] ?_; (with_reducible refine (impl_has.calls x6_1 (rd l1 x11_1) false _ A6.out).mono ?_); rintro e w' ⟨rfl, ⟨nd, rfl⟩⟩; refine ⟨_, rfl, ?_⟩) | (refine zO (some 21) Tryd.func105 #[.int .i64 (rd l1 x11_1)] ?_; (with_reducible refine (impl_one.calls (rd l1 x11_1) t348 _ A10.out).mono ?_); rintro e w' ⟨rfl, ⟨nd, rfl⟩⟩; refine ⟨_, rfl, ?_⟩; have p349 : 0 ≤ ((rd l1 x11_1) : Int) := zd; have q349 : (rd l1 x11_1) < (l0.length : Int) := zd; obtain ⟨ad349, e349, hx349_0⟩ := Kd.at_int HR0.out (rd l1 x11_1) p349 q349; cases e349; replace p349 := eq_true p349; replace q349 := eq_true q349))
        go_roundg k1
        case measure => have := HK1.out; omega
        case rel => exact ⟨(Go.bits .or .i64 x5_1 t348), (Go.bits .or .i64 x6_1 (rd l0 (rd l1 x11_1))), (wrap64 (x11_1 + 1)), zs, zs, zs, H', ⟨by have := HK1.out; omega⟩, by repeat (first | exact Drawn0.refl _ | apply Drawn0.step)⟩
       rw [if_neg c12] at H
       exact absurd H (by simp)
      rw [if_neg c11] at H
      exact absurd H (by simp)
     rw [if_neg c5] at H
     exact absurd H (by simp)
    rw [if_neg c4] at H
    exact absurd H (by simp)
   rw [if_neg c3] at H
   have c3b0 : decide (x11_1 < (l1.length : Int)) = false := decide_eq_false c3
   clear c3
   obtain rfl := Option.some.inj H
   go_wp2
   go_ret
   exact ⟨zs, by repeat (first | exact Drawn0.refl _ | apply Drawn0.step)⟩
def spec_l03Word.l0 : Nat → Int → List Int → Int → Option (Bool)
 | 0, _, _, _ => none
 | k + 1, x0, x1, x5 => if x5 < (x1.length : Int) then (if 0 ≤ x5 then ((spec_l01In.f (rd x1 x5) 0 (wrap64 (x0 - 1))).bind fun t360 => (if t360 = true then (spec_l03Word.l0 k x0 x1 (wrap64 (x5 + 1))) else (some false))) else (none)) else (some true)
def spec_l03Word.f (k : Nat) (a0 : Int) (l1 : List Int) : Option (Bool) := if (l1.length : Int) > 24 then (some false) else (spec_l03Word.l0 k a0 l1 0)
set_option maxHeartbeats 8000000 in
set_option maxRecDepth 100000 in
theorem spec_l03Word.calls (k : Nat) (a0 : Int) (A1 : Option Addr) (c1 : Nat) (l1 : List Int) (r : Bool) (w : World) (hr1 : Kd.C (Kd.int .i64) w A1 l1.length l1) (hc1 : l1.length ≤ c1) (h : spec_l03Word.f k a0 l1 = some r) :
  Calls Tryd.prog 107 #[.int .i64 a0, .slice A1 l1.length c1] w fun e w' => e = .returned (.bool r) ∧ Drawn0 w w' := by
 have HR1 := zA hr1
 have HC1 := zA hc1
 clear hr1 hc1
 have H := h
 unfold spec_l03Word.f at H
 clear h
 by_cases c3 : (l1.length : Int) > 24
 ·rw [if_pos c3] at H
  have c3b0 : decide (24 < (l1.length : Int)) = true := decide_eq_true c3
  have c3b1 : decide (24 < l1.length) = true := decide_eq_true (by omega)
  clear c3
  obtain rfl := Option.some.inj H
  go_enter Tryd.func107, Tryd.ntmps107
  go_wp2
  go_ret
  exact ⟨zs, by repeat (first | exact Drawn0.refl _ | apply Drawn0.step)⟩
 rw [if_neg c3] at H
 have c3b0 : decide (24 < (l1.length : Int)) = false := decide_eq_false c3
 have c3b1 : decide (24 < l1.length) = false := decide_eq_false (by omega)
 clear c3
 have H' := zA H
 clear H
 go_enter Tryd.func107, Tryd.ntmps107
 go_wp2
 go_loopg [5] k (fun kq v5 w' => ∃ (x5_1 : Int), v5 = .int .i64 x5_1 ∧ Aside0 (spec_l03Word.l0 kq a0 l1 x5_1 = some r) ∧ Aside0 (kq ≤ k) ∧ Drawn0 w w')
 case atStart => exact ⟨(0), zs, H', ⟨Nat.le_refl _⟩, by repeat (first | exact Drawn0.refl _ | apply Drawn0.step)⟩
 case round =>
  clear H'
  try clear c1
  try clear c3
  obtain ⟨x5_1, rfl, HA, HK1, ⟨m1, rfl⟩⟩ := hrel
  cases gk with
  | zero => exact absurd HA.out (by simp [spec_l03Word.l0])
  | succ k1 =>
   have H := HA.out
   clear HA
   simp only [spec_l03Word.l0] at H
   by_cases c4 : x5_1 < (l1.length : Int)
   ·rw [if_pos c4] at H
    have c4b0 : decide (x5_1 < (l1.length : Int)) = true := decide_eq_true c4
    clear c4
    by_cases c5 : 0 ≤ x5_1
    ·rw [if_pos c5] at H
     have c5b0 : decide (0 ≤ x5_1) = true := decide_eq_true c5
     clear c5
     obtain ⟨t360, A6, H⟩ := zb H
     try dsimp only at H
     by_cases c7 : t360 = true
     ·subst c7
      rw [if_pos rfl] at H
      have H' := zA H
      clear H
      have p359 : 0 ≤ (x5_1 : Int) := zd
      have q359 : x5_1 < (l1.length : Int) := zd
      obtain ⟨ad359, e359, hx359_0⟩ := Kd.at_int HR1.out x5_1 p359 q359
      cases e359
      replace p359 := eq_true p359
      replace q359 := eq_true q359
      go_wp2_with (first | (refine zO (some 21) Tryd.func64 #[.int .i64 (rd l1 x5_1), .int .i64 0, .int .i64 (wrap64 (a0 - 1))] ?_; (with_reducible refine (spec_l01In.calls (rd l1 x5_1) 0 (wrap64 (a0 - 1)) true _ A6.out).mono ?_); rintro e w' ⟨rfl, ⟨nd, rfl⟩⟩; refine ⟨_, rfl, ?_⟩))
      go_roundg k1
      case measure => have := HK1.out; omega
      case rel => exact ⟨(wrap64 (x5_1 + 1)), zs, H', ⟨by have := HK1.out; omega⟩, by repeat (first | exact Drawn0.refl _ | apply Drawn0.step)⟩
     replace c7 := Bool.eq_false_iff.mpr c7
     subst c7
     rw [if_neg (show ¬ (false = true) by decide)] at H
     obtain rfl := Option.some.inj H
     have p359 : 0 ≤ (x5_1 : Int) := zd
     have q359 : x5_1 < (l1.length : Int) := zd
     obtain ⟨ad359, e359, hx359_0⟩ := Kd.at_int HR1.out x5_1 p359 q359
     cases e359
     replace p359 := eq_true p359
     replace q359 := eq_true q359
     go_wp2_with (first | (refine zO (some 21) Tryd.func64 #[.int .i64 (rd l1 x5_1), .int .i64 0, .int .i64 (wrap64 (a0 - 1))] ?_; (with_reducible refine (spec_l01In.calls (rd l1 x5_1) 0 (wrap64 (a0 - 1)) false _ A6.out).mono ?_); rintro e w' ⟨rfl, ⟨nd, rfl⟩⟩; refine ⟨_, rfl, ?_⟩))
     go_ret
     exact ⟨zs, by repeat (first | exact Drawn0.refl _ | apply Drawn0.step)⟩
    rw [if_neg c5] at H
    exact absurd H (by simp)
   rw [if_neg c4] at H
   have c4b0 : decide (x5_1 < (l1.length : Int)) = false := decide_eq_false c4
   clear c4
   obtain rfl := Option.some.inj H
   go_wp2
   go_ret
   exact ⟨zs, by repeat (first | exact Drawn0.refl _ | apply Drawn0.step)⟩
def spec_l03Code.f (k : Nat) (a0_0 : Int) (l0_1 : List Int) (l1 : List Int) (l2 : List Int) : Option (Int) := (spec_l02Is.f k a0_0 l0_1).bind fun t362 => (if t362 = true then ((spec_l03Word.f k a0_0 l1).bind fun t363 => (if t363 = true then ((spec_l03Word.f k a0_0 l2).bind fun t364 => (if t364 = true then (some 0) else (some 2))) else (some 2))) else (some 1))
set_option maxHeartbeats 8000000 in
set_option maxRecDepth 100000 in
theorem spec_l03Code.calls (k : Nat) (a0_0 : Int) (A0_1 : Option Addr) (c0_1 : Nat) (l0_1 : List Int) (A1 : Option Addr) (c1 : Nat) (l1 : List Int) (A2 : Option Addr) (c2 : Nat) (l2 : List Int) (r : Int) (w : World) (hr0_1 : Kd.C (Kd.int .i64) w A0_1 l0_1.length l0_1) (hc0_1 : l0_1.length ≤ c0_1) (hr1 : Kd.C (Kd.int .i64) w A1 l1.length l1) (hc1 : l1.length ≤ c1) (hr2 : Kd.C (Kd.int .i64) w A2 l2.length l2) (hc2 : l2.length ≤ c2) (h : spec_l03Code.f k a0_0 l0_1 l1 l2 = some r) :
  Calls Tryd.prog 52 #[.agg #[.int .i64 a0_0, .slice A0_1 l0_1.length c0_1], .slice A1 l1.length c1, .slice A2 l2.length c2] w fun e w' => e = .returned (.int .i64 r) ∧ Below w.heap.size w w' := by
 have hu26 := Tryd.underlying26
 have HR0_1 := zA hr0_1
 have HC0_1 := zA hc0_1
 clear hr0_1 hc0_1
 have HR1 := zA hr1
 have HC1 := zA hc1
 clear hr1 hc1
 have HR2 := zA hr2
 have HC2 := zA hc2
 clear hr2 hc2
 have HB := zA (kW w.heap.size w)
 have H := h
 unfold spec_l03Code.f at H
 clear h
 obtain ⟨t362, A4, H⟩ := zb H
 try dsimp only at H
 by_cases c5 : t362 = true
 ·subst c5
  rw [if_pos rfl] at H
  obtain ⟨t363, A6, H⟩ := zb H
  try dsimp only at H
  by_cases c7 : t363 = true
  ·subst c7
   rw [if_pos rfl] at H
   obtain ⟨t364, A8, H⟩ := zb H
   try dsimp only at H
   by_cases c9 : t364 = true
   ·subst c9
    rw [if_pos rfl] at H
    obtain rfl := Option.some.inj H
    go_enter Tryd.func52, Tryd.ntmps52
    go_wp2_with (first | (refine zBE 3 #[.int .i64 a0_0, .slice A0_1 l0_1.length c0_1] 26 ?_; intro gb361 hg w10 hbox hb; have BK361 := zA (hbox); have GW361 := zA (zBH hg HB.out); have GE361 := zA (zBH hg HB.out); replace HB := zA (kQ (zQ HB.out) hb); clear hb hbox hg; obtain ⟨hcz11_0, hcz11_1, hfz11_0, hfz11_1⟩ := zB3 BK361.out) | (refine zO (some 8) Tryd.func106 #[.agg #[.int .i64 a0_0, .slice A0_1 l0_1.length c0_1]] ?_; (with_reducible refine (spec_l02Is.calls k a0_0 _ _ l0_1 true _ ?side1 ?side2 A4.out).mono ?_); (case side1 => exact zS (kO HR0_1.out HB.out)); (case side2 => exact HC0_1.out); rintro e w12 ⟨rfl, hb⟩; refine ⟨_, rfl, ?_⟩; replace BK361 := zA (zB1 BK361.out hb); replace HB := zA (kQ (zT HB.out GE361.out) hb); (try clear hb); obtain ⟨hcz13_0, hcz13_1, hfz13_0, hfz13_1⟩ := zB3 BK361.out) | (refine zO (some 13) Tryd.func107 #[.int .i64 a0_0, .slice A1 l1.length c1] ?_; (with_reducible refine (spec_l03Word.calls k a0_0 _ _ l1 true _ ?side1 ?side2 A6.out).mono ?_); (case side1 => exact zS (kO HR1.out HB.out)); (case side2 => exact HC1.out); rintro e w' ⟨rfl, ⟨nd, rfl⟩⟩; refine ⟨_, rfl, ?_⟩) | (go_at_call 107; (with_reducible refine (spec_l03Word.calls k a0_0 _ _ l2 true _ ?side1 ?side2 A8.out).mono ?_); (case side1 => exact zS (kO HR2.out (zT HB.out GE361.out))); (case side2 => exact HC2.out); rintro e w' ⟨rfl, ⟨nd, rfl⟩⟩))
    go_ret
    exact ⟨zr, zT HB.out GE361.out⟩
   replace c9 := Bool.eq_false_iff.mpr c9
   subst c9
   rw [if_neg (show ¬ (false = true) by decide)] at H
   obtain rfl := Option.some.inj H
   go_enter Tryd.func52, Tryd.ntmps52
   go_wp2_with (first | (refine zBE 3 #[.int .i64 a0_0, .slice A0_1 l0_1.length c0_1] 26 ?_; intro gb361 hg w14 hbox hb; have BK361 := zA (hbox); have GW361 := zA (zBH hg HB.out); have GE361 := zA (zBH hg HB.out); replace HB := zA (kQ (zQ HB.out) hb); clear hb hbox hg; obtain ⟨hcz15_0, hcz15_1, hfz15_0, hfz15_1⟩ := zB3 BK361.out) | (refine zO (some 8) Tryd.func106 #[.agg #[.int .i64 a0_0, .slice A0_1 l0_1.length c0_1]] ?_; (with_reducible refine (spec_l02Is.calls k a0_0 _ _ l0_1 true _ ?side1 ?side2 A4.out).mono ?_); (case side1 => exact zS (kO HR0_1.out HB.out)); (case side2 => exact HC0_1.out); rintro e w16 ⟨rfl, hb⟩; refine ⟨_, rfl, ?_⟩; replace BK361 := zA (zB1 BK361.out hb); replace HB := zA (kQ (zT HB.out GE361.out) hb); (try clear hb); obtain ⟨hcz17_0, hcz17_1, hfz17_0, hfz17_1⟩ := zB3 BK361.out) | (refine zO (some 13) Tryd.func107 #[.int .i64 a0_0, .slice A1 l1.length c1] ?_; (with_reducible refine (spec_l03Word.calls k a0_0 _ _ l1 true _ ?side1 ?side2 A6.out).mono ?_); (case side1 => exact zS (kO HR1.out HB.out)); (case side2 => exact HC1.out); rintro e w' ⟨rfl, ⟨nd, rfl⟩⟩; refine ⟨_, rfl, ?_⟩) | (go_at_call 107; (with_reducible refine (spec_l03Word.calls k a0_0 _ _ l2 false _ ?side1 ?side2 A8.out).mono ?_); (case side1 => exact zS (kO HR2.out (zT HB.out GE361.out))); (case side2 => exact HC2.out); rintro e w' ⟨rfl, ⟨nd, rfl⟩⟩))
   go_ret
   exact ⟨zr, zT HB.out GE361.out⟩
  replace c7 := Bool.eq_false_iff.mpr c7
  subst c7
  rw [if_neg (show ¬ (false = true) by decide)] at H
  obtain rfl := Option.some.inj H
  go_enter Tryd.func52, Tryd.ntmps52
  go_wp2_with (first | (refine zBE 3 #[.int .i64 a0_0, .slice A0_1 l0_1.length c0_1] 26 ?_; intro gb361 hg w18 hbox hb; have BK361 := zA (hbox); have GW361 := zA (zBH hg HB.out); have GE361 := zA (zBH hg HB.out); replace HB := zA (kQ (zQ HB.out) hb); clear hb hbox hg; obtain ⟨hcz19_0, hcz19_1, hfz19_0, hfz19_1⟩ := zB3 BK361.out) | (refine zO (some 8) Tryd.func106 #[.agg #[.int .i64 a0_0, .slice A0_1 l0_1.length c0_1]] ?_; (with_reducible refine (spec_l02Is.calls k a0_0 _ _ l0_1 true _ ?side1 ?side2 A4.out).mono ?_); (case side1 => exact zS (kO HR0_1.out HB.out)); (case side2 => exact HC0_1.out); rintro e w20 ⟨rfl, hb⟩; refine ⟨_, rfl, ?_⟩; replace BK361 := zA (zB1 BK361.out hb); replace HB := zA (kQ (zT HB.out GE361.out) hb); (try clear hb); obtain ⟨hcz21_0, hcz21_1, hfz21_0, hfz21_1⟩ := zB3 BK361.out) | (refine zO (some 13) Tryd.func107 #[.int .i64 a0_0, .slice A1 l1.length c1] ?_; (with_reducible refine (spec_l03Word.calls k a0_0 _ _ l1 false _ ?side1 ?side2 A6.out).mono ?_); (case side1 => exact zS (kO HR1.out HB.out)); (case side2 => exact HC1.out); rintro e w' ⟨rfl, ⟨nd, rfl⟩⟩; refine ⟨_, rfl, ?_⟩))
  go_ret
  exact ⟨zr, zT HB.out GE361.out⟩
 replace c5 := Bool.eq_false_iff.mpr c5
 subst c5
 rw [if_neg (show ¬ (false = true) by decide)] at H
 obtain rfl := Option.some.inj H
 go_enter Tryd.func52, Tryd.ntmps52
 go_wp2_with (first | (refine zBE 3 #[.int .i64 a0_0, .slice A0_1 l0_1.length c0_1] 26 ?_; intro gb361 hg w22 hbox hb; have BK361 := zA (hbox); have GW361 := zA (zBH hg HB.out); have GE361 := zA (zBH hg HB.out); replace HB := zA (kQ (zQ HB.out) hb); clear hb hbox hg; obtain ⟨hcz23_0, hcz23_1, hfz23_0, hfz23_1⟩ := zB3 BK361.out) | (refine zO (some 8) Tryd.func106 #[.agg #[.int .i64 a0_0, .slice A0_1 l0_1.length c0_1]] ?_; (with_reducible refine (spec_l02Is.calls k a0_0 _ _ l0_1 false _ ?side1 ?side2 A4.out).mono ?_); (case side1 => exact zS (kO HR0_1.out HB.out)); (case side2 => exact HC0_1.out); rintro e w24 ⟨rfl, hb⟩; refine ⟨_, rfl, ?_⟩; replace BK361 := zA (zB1 BK361.out hb); replace HB := zA (kQ (zT HB.out GE361.out) hb); (try clear hb)))
 go_ret
 exact ⟨zr, zT HB.out GE361.out⟩
def spec_l02Dep.f (a0_0 : Int) (l0_1 : List Int) (a1 : Int) (a2 : Int) : Option (Bool) := if 0 ≤ a1 then (if a1 < (l0_1.length : Int) then ((spec_l01Bit.f (rd l0_1 a1) a2).bind fun t367 => (some t367)) else (none)) else (none)
set_option maxHeartbeats 8000000 in
set_option maxRecDepth 100000 in
theorem spec_l02Dep.calls (a0_0 : Int) (A0_1 : Option Addr) (c0_1 : Nat) (l0_1 : List Int) (a1 : Int) (a2 : Int) (r : Bool) (w : World) (hr0_1 : Kd.C (Kd.int .i64) w A0_1 l0_1.length l0_1) (hc0_1 : l0_1.length ≤ c0_1) (h : spec_l02Dep.f a0_0 l0_1 a1 a2 = some r) :
  Calls Tryd.prog 108 #[.agg #[.int .i64 a0_0, .slice A0_1 l0_1.length c0_1], .int .i64 a1, .int .i64 a2] w fun e w' => e = .returned (.bool r) ∧ Below w.heap.size w w' := by
 have hu26 := Tryd.underlying26
 have HR0_1 := zA hr0_1
 have HC0_1 := zA hc0_1
 clear hr0_1 hc0_1
 have HB := zA (kW w.heap.size w)
 have H := h
 unfold spec_l02Dep.f at H
 clear h
 by_cases c4 : 0 ≤ a1
 ·rw [if_pos c4] at H
  have c4b0 : decide (0 ≤ a1) = true := decide_eq_true c4
  clear c4
  by_cases c5 : a1 < (l0_1.length : Int)
  ·rw [if_pos c5] at H
   have c5b0 : decide (a1 < (l0_1.length : Int)) = true := decide_eq_true c5
   clear c5
   obtain ⟨t367, A6, H⟩ := zb H
   try dsimp only at H
   obtain rfl := Option.some.inj H
   go_enter Tryd.func108, Tryd.ntmps108
   go_wp2_with (first | (refine zBE 3 #[.int .i64 a0_0, .slice A0_1 l0_1.length c0_1] 26 ?_; intro gb365 hg w7 hbox hb; have BK365 := zA (hbox); have GW365 := zA (zBH hg HB.out); have GE365 := zA (zBH hg HB.out); replace HB := zA (kQ (zQ HB.out) hb); clear hb hbox hg; obtain ⟨hcz8_0, hcz8_1, hfz8_0, hfz8_1⟩ := zB3 BK365.out; have p366 : 0 ≤ (a1 : Int) := zd; have q366 : a1 < (l0_1.length : Int) := zd; obtain ⟨ad366, e366, hx366_0⟩ := Kd.at_int HR0_1.out a1 p366 q366; cases e366; replace hx366_0 := (HB.out.cell (jG w _ hx366_0)).trans hx366_0; replace p366 := eq_true p366; replace q366 := eq_true q366) | (refine zO (some 13) Tryd.func66 #[.int .i64 (rd l0_1 a1), .int .i64 a2] ?_; (with_reducible refine (spec_l01Bit.calls (rd l0_1 a1) a2 t367 _ A6.out).mono ?_); rintro e w' ⟨rfl, ⟨nd, rfl⟩⟩; refine ⟨_, rfl, ?_⟩))
   go_ret
   exact ⟨zr, zT HB.out GE365.out⟩
  rw [if_neg c5] at H
  exact absurd H (by simp)
 rw [if_neg c4] at H
 exact absurd H (by simp)
def spec_l03First.l0 : Nat → List Int → Int → Int → Int → List Int → Option (Int)
 | 0, _, _, _, _, _ => none
 | k + 1, x1, x2, x7, x369000, x369001 => if x7 < (x1.length : Int) then (if 0 ≤ x7 then (if (rd x1 x7) = x2 then (some x7) else ((spec_l02Dep.f x369000 x369001 (rd x1 x7) x2).bind fun t371 => (if t371 = true then (some (-1)) else (spec_l03First.l0 k x1 x2 (wrap64 (x7 + 1)) x369000 x369001)))) else (none)) else (some (-1))
def spec_l03First.f (k : Nat) (a0_0 : Int) (l0_1 : List Int) (l1 : List Int) (a2 : Int) : Option (Int) := spec_l03First.l0 k l1 a2 0 a0_0 l0_1
set_option maxHeartbeats 8000000 in
set_option maxRecDepth 100000 in
theorem spec_l03First.calls (k : Nat) (a0_0 : Int) (A0_1 : Option Addr) (c0_1 : Nat) (l0_1 : List Int) (A1 : Option Addr) (c1 : Nat) (l1 : List Int) (a2 : Int) (r : Int) (w : World) (hr0_1 : Kd.C (Kd.int .i64) w A0_1 l0_1.length l0_1) (hc0_1 : l0_1.length ≤ c0_1) (hr1 : Kd.C (Kd.int .i64) w A1 l1.length l1) (hc1 : l1.length ≤ c1) (h : spec_l03First.f k a0_0 l0_1 l1 a2 = some r) :
  Calls Tryd.prog 53 #[.agg #[.int .i64 a0_0, .slice A0_1 l0_1.length c0_1], .slice A1 l1.length c1, .int .i64 a2] w fun e w' => e = .returned (.int .i64 r) ∧ Below w.heap.size w w' := by
 have hu26 := Tryd.underlying26
 have HR0_1 := zA hr0_1
 have HC0_1 := zA hc0_1
 clear hr0_1 hc0_1
 have HR1 := zA hr1
 have HC1 := zA hc1
 clear hr1 hc1
 have HB := zA (kW w.heap.size w)
 have H := h
 unfold spec_l03First.f at H
 clear h
 have H' := zA H
 clear H
 go_enter Tryd.func53, Tryd.ntmps53
 go_wp2_with (first | (refine zBE 3 #[.int .i64 a0_0, .slice A0_1 l0_1.length c0_1] 26 ?_; intro gb368 hg w4 hbox hb; have BK368 := zA (hbox); have GW368 := zA (zBH hg HB.out); have GE368 := zA (zBH hg HB.out); replace HB := zA (kQ (zQ HB.out) hb); clear hb hbox hg))
 go_loopg [7] k (fun kq v7 w' => ∃ (x7_1 : Int), v7 = .int .i64 x7_1 ∧ Aside0 (spec_l03First.l0 kq l1 a2 x7_1 a0_0 l0_1 = some r) ∧ Aside0 (kq ≤ k) ∧ Aside0 (w'.heap[gb368]? = some (.cells #[.int .i64 a0_0, (.slice A0_1 l0_1.length c0_1)] 26 (0, 0))) ∧ Aside0 (Below w.heap.size w w'))
 case atStart => exact ⟨(0), zs, H', ⟨Nat.le_refl _⟩, ⟨zR BK368.out⟩, ⟨zT HB.out GE368.out⟩⟩
 case round =>
  clear H'
  try clear c1
  obtain ⟨x7_1, rfl, HA, HK1, BK368, HB⟩ := hrel
  cases gk with
  | zero => exact absurd HA.out (by simp [spec_l03First.l0])
  | succ k1 =>
   have H := HA.out
   clear HA
   simp only [spec_l03First.l0] at H
   by_cases c5 : x7_1 < (l1.length : Int)
   ·rw [if_pos c5] at H
    have c5b0 : decide (x7_1 < (l1.length : Int)) = true := decide_eq_true c5
    clear c5
    by_cases c6 : 0 ≤ x7_1
    ·rw [if_pos c6] at H
     have c6b0 : decide (0 ≤ x7_1) = true := decide_eq_true c6
     clear c6
     by_cases c7 : (rd l1 x7_1) = a2
     ·rw [if_pos c7] at H
      obtain ⟨c7b0, c7b1⟩ := zT1 c7
      clear c7
      obtain rfl := Option.some.inj H
      have p369 : 0 ≤ (x7_1 : Int) := zd
      have q369 : x7_1 < (l1.length : Int) := zd
      obtain ⟨ad369, e369, hx369_0⟩ := Kd.at_int HR1.out x7_1 p369 q369
      cases e369
      replace hx369_0 := (HB.out.cell (jG w _ hx369_0)).trans hx369_0
      replace p369 := eq_true p369
      replace q369 := eq_true q369
      go_wp2
      go_ret
      exact ⟨zr, zT HB.out GE368.out⟩
     rw [if_neg c7] at H
     obtain ⟨c7b0, c7b1⟩ := zT2 c7
     obtain ⟨t371, A8, H⟩ := zb H
     try dsimp only at H
     by_cases c9 : t371 = true
     ·subst c9
      rw [if_pos rfl] at H
      obtain rfl := Option.some.inj H
      have p369 : 0 ≤ (x7_1 : Int) := zd
      have q369 : x7_1 < (l1.length : Int) := zd
      obtain ⟨ad369, e369, hx369_0⟩ := Kd.at_int HR1.out x7_1 p369 q369
      cases e369
      replace hx369_0 := (HB.out.cell (jG w _ hx369_0)).trans hx369_0
      replace p369 := eq_true p369
      replace q369 := eq_true q369
      try go_wp2
      replace BK368 := zA (zK BK368.out)
      replace HB := zA (zD HB.out)
      have p370 : 0 ≤ (x7_1 : Int) := zd
      have q370 : x7_1 < (l1.length : Int) := zd
      obtain ⟨ad370, e370, hx370_0⟩ := Kd.at_int HR1.out x7_1 p370 q370
      have hw370_0 := hx370_0
      obtain rfl : ad369 = ad370 := (by injection e370)
      replace hx370_0 := (HB.out.cell (jG w _ hx370_0)).trans hx370_0
      replace p370 := eq_true p370
      replace q370 := eq_true q370
      refine start_ (n := 7) (S := fun w' => w'.cell? ⟨gb368, 0, none⟩ = some (.int .i64 a0_0) ∧ w'.cell? ⟨gb368, 1, none⟩ = some (.slice A0_1 l0_1.length c0_1) ∧ w'.cell? (ad369.add (x7_1).toNat) = some (.int .i64 (rd l1 x7_1))) (ds := []) #[false, false, false, false, false, false, false] (by kernel_rfl) rfl rfl ⟨(kV BK368.out 0).trans rfl, (kV BK368.out 1).trans rfl, (pw_cell_below HB.out hw370_0)⟩ (fun hHeld => ?_)
      generalize wr.drew = w10 at BK368 HB hx370_0 hHeld ⊢
      refine pure_ (i := 1) (N := some 22) (v := ?_) (a' := ?_) #[false, true, false, false, false, false, false] rfl rfl (by kernel_rfl) (fun _ _ _ h => h) (Or.inl ⟨by rfl, ?_⟩) ?_ ?_
      rotate_left
      ·intro w'
       go_simp
       with_reducible rfl
      rotate_left
      ·simp only [Act.put, zL, zM, zN, i64_w, i32_w]
       rfl
      refine pure_ (i := 2) (N := some 23) (v := ?_) (a' := ?_) #[false, true, true, false, false, false, false] rfl rfl (by kernel_rfl) (fun _ _ _ h => h) (Or.inl ⟨by rfl, ?_⟩) ?_ ?_
      rotate_left
      ·intro w'
       go_simp
       with_reducible rfl
      rotate_left
      ·simp only [Act.put, zL, zM, zN, i64_w, i32_w]
       rfl
      refine pure_ (i := 3) (N := some 24) (v := ?_) (a' := ?_) #[false, true, true, true, false, false, false] rfl rfl (by kernel_rfl) (fun _ _ _ h => h) (Or.inl ⟨by rfl, ?_⟩) ?_ ?_
      rotate_left
      ·intro w'
       go_simp
       with_reducible rfl
      rotate_left
      ·simp only [Act.put, zL, zM, zN, i64_w, i32_w]
       rfl
      refine pure_ (i := 5) (N := some 26) (v := ?_) (a' := ?_) #[false, true, true, true, false, true, false] rfl rfl (by kernel_rfl) (fun _ _ _ h => h) (Or.inl ⟨by rfl, ?_⟩) ?_ ?_
      rotate_left
      ·intro w'
       go_simp
       with_reducible rfl
      rotate_left
      ·simp only [Act.put, zL, zM, zN, i64_w, i32_w]
       rfl
      refine take_ (i := 0) (N := some 21) (v := ?_) (a' := ?_) #[true, true, true, true, false, true, false] rfl rfl (by kernel_rfl) (fun _ _ _ h => h) (Or.inl ⟨by rfl, ?_⟩) hHeld ?_ ?_
      rotate_left
      ·rintro w' ⟨s0, s1, s2⟩
       go_simp
       with_reducible rfl
      rotate_left
      ·simp only [Act.put, zL, zM, zN, i64_w, i32_w]
       rfl
      refine take_ (i := 4) (N := some 25) (v := ?_) (a' := ?_) #[true, true, true, true, true, true, false] rfl rfl (by kernel_rfl) (fun _ _ _ h => h) (Or.inl ⟨by rfl, ?_⟩) hHeld ?_ ?_
      rotate_left
      ·rintro w' ⟨s0, s1, s2⟩
       go_simp
       with_reducible rfl
      rotate_left
      ·simp only [Act.put, zL, zM, zN, i64_w, i32_w]
       rfl
      refine one_ (i := 6) (N := some 27) #[true, true, true, true, true, true, true] rfl rfl (by kernel_rfl) (by decide) (fun K hK => ?_)
      refine goes_ Tryd.func108 (by kernel_rfl) rfl #[.agg #[.int .i64 a0_0, .slice A0_1 l0_1.length c0_1], .int .i64 (rd l1 x7_1), .int .i64 a2] (by rfl) rfl rfl zg ?_
      with_reducible refine (spec_l02Dep.calls a0_0 _ _ l0_1 (rd l1 x7_1) a2 true _ ?side1 ?side2 A8.out).mono ?_
      (case side1 => exact zS (kO HR0_1.out HB.out))
      (case side2 => exact HC0_1.out)
      rintro e w11 ⟨rfl, hb⟩
      refine ⟨_, rfl, ?_⟩
      replace BK368 := zA (zB1 BK368.out hb)
      replace HB := zA (kQ (zT HB.out GE368.out) hb)
      (try clear hb)
      (try clear hb2)
      (try clear hk)
      (try clear hi)
      (try clear hgw)
      refine hK.out _ _ ⟨(kV BK368.out 0).trans rfl, (kV BK368.out 1).trans rfl, (pw_cell_below HB.out hw370_0)⟩ (fun hHeld => ?_)
      clear hK K
      refine norm_ (a' := ?_) ?_ ?_
      rotate_left
      ·show Act.put _ (some 27) _ = _
       simp only [Act.put, zL, zM, zN, i64_w, i32_w]
       rfl
      refine done_ (by kernel_rfl) ?_
      try go_wp2
      go_ret
      exact ⟨zr, zT HB.out GE368.out⟩
     replace c9 := Bool.eq_false_iff.mpr c9
     subst c9
     rw [if_neg (show ¬ (false = true) by decide)] at H
     have H' := zA H
     clear H
     have p369 : 0 ≤ (x7_1 : Int) := zd
     have q369 : x7_1 < (l1.length : Int) := zd
     obtain ⟨ad369, e369, hx369_0⟩ := Kd.at_int HR1.out x7_1 p369 q369
     cases e369
     replace hx369_0 := (HB.out.cell (jG w _ hx369_0)).trans hx369_0
     replace p369 := eq_true p369
     replace q369 := eq_true q369
     try go_wp2
     replace BK368 := zA (zK BK368.out)
     replace HB := zA (zD HB.out)
     have p370 : 0 ≤ (x7_1 : Int) := zd
     have q370 : x7_1 < (l1.length : Int) := zd
     obtain ⟨ad370, e370, hx370_0⟩ := Kd.at_int HR1.out x7_1 p370 q370
     have hw370_0 := hx370_0
     obtain rfl : ad369 = ad370 := (by injection e370)
     replace hx370_0 := (HB.out.cell (jG w _ hx370_0)).trans hx370_0
     replace p370 := eq_true p370
     replace q370 := eq_true q370
     refine start_ (n := 7) (S := fun w' => w'.cell? ⟨gb368, 0, none⟩ = some (.int .i64 a0_0) ∧ w'.cell? ⟨gb368, 1, none⟩ = some (.slice A0_1 l0_1.length c0_1) ∧ w'.cell? (ad369.add (x7_1).toNat) = some (.int .i64 (rd l1 x7_1))) (ds := []) #[false, false, false, false, false, false, false] (by kernel_rfl) rfl rfl ⟨(kV BK368.out 0).trans rfl, (kV BK368.out 1).trans rfl, (pw_cell_below HB.out hw370_0)⟩ (fun hHeld => ?_)
     generalize wr.drew = w12 at BK368 HB hx370_0 hHeld ⊢
     refine pure_ (i := 1) (N := some 22) (v := ?_) (a' := ?_) #[false, true, false, false, false, false, false] rfl rfl (by kernel_rfl) (fun _ _ _ h => h) (Or.inl ⟨by rfl, ?_⟩) ?_ ?_
     rotate_left
     ·intro w'
      go_simp
      with_reducible rfl
     rotate_left
     ·simp only [Act.put, zL, zM, zN, i64_w, i32_w]
      rfl
     refine pure_ (i := 2) (N := some 23) (v := ?_) (a' := ?_) #[false, true, true, false, false, false, false] rfl rfl (by kernel_rfl) (fun _ _ _ h => h) (Or.inl ⟨by rfl, ?_⟩) ?_ ?_
     rotate_left
     ·intro w'
      go_simp
      with_reducible rfl
     rotate_left
     ·simp only [Act.put, zL, zM, zN, i64_w, i32_w]
      rfl
     refine pure_ (i := 3) (N := some 24) (v := ?_) (a' := ?_) #[false, true, true, true, false, false, false] rfl rfl (by kernel_rfl) (fun _ _ _ h => h) (Or.inl ⟨by rfl, ?_⟩) ?_ ?_
     rotate_left
     ·intro w'
      go_simp
      with_reducible rfl
     rotate_left
     ·simp only [Act.put, zL, zM, zN, i64_w, i32_w]
      rfl
     refine pure_ (i := 5) (N := some 26) (v := ?_) (a' := ?_) #[false, true, true, true, false, true, false] rfl rfl (by kernel_rfl) (fun _ _ _ h => h) (Or.inl ⟨by rfl, ?_⟩) ?_ ?_
     rotate_left
     ·intro w'
      go_simp
      with_reducible rfl
     rotate_left
     ·simp only [Act.put, zL, zM, zN, i64_w, i32_w]
      rfl
     refine take_ (i := 0) (N := some 21) (v := ?_) (a' := ?_) #[true, true, true, true, false, true, false] rfl rfl (by kernel_rfl) (fun _ _ _ h => h) (Or.inl ⟨by rfl, ?_⟩) hHeld ?_ ?_
     rotate_left
     ·rintro w' ⟨s0, s1, s2⟩
      go_simp
      with_reducible rfl
     rotate_left
     ·simp only [Act.put, zL, zM, zN, i64_w, i32_w]
      rfl
     refine take_ (i := 4) (N := some 25) (v := ?_) (a' := ?_) #[true, true, true, true, true, true, false] rfl rfl (by kernel_rfl) (fun _ _ _ h => h) (Or.inl ⟨by rfl, ?_⟩) hHeld ?_ ?_
     rotate_left
     ·rintro w' ⟨s0, s1, s2⟩
      go_simp
      with_reducible rfl
     rotate_left
     ·simp only [Act.put, zL, zM, zN, i64_w, i32_w]
      rfl
     refine one_ (i := 6) (N := some 27) #[true, true, true, true, true, true, true] rfl rfl (by kernel_rfl) (by decide) (fun K hK => ?_)
     refine goes_ Tryd.func108 (by kernel_rfl) rfl #[.agg #[.int .i64 a0_0, .slice A0_1 l0_1.length c0_1], .int .i64 (rd l1 x7_1), .int .i64 a2] (by rfl) rfl rfl zg ?_
     with_reducible refine (spec_l02Dep.calls a0_0 _ _ l0_1 (rd l1 x7_1) a2 false _ ?side1 ?side2 A8.out).mono ?_
     (case side1 => exact zS (kO HR0_1.out HB.out))
     (case side2 => exact HC0_1.out)
     rintro e w13 ⟨rfl, hb⟩
     refine ⟨_, rfl, ?_⟩
     replace BK368 := zA (zB1 BK368.out hb)
     replace HB := zA (kQ (zT HB.out GE368.out) hb)
     (try clear hb)
     (try clear hb2)
     (try clear hk)
     (try clear hi)
     (try clear hgw)
     refine hK.out _ _ ⟨(kV BK368.out 0).trans rfl, (kV BK368.out 1).trans rfl, (pw_cell_below HB.out hw370_0)⟩ (fun hHeld => ?_)
     clear hK K
     refine norm_ (a' := ?_) ?_ ?_
     rotate_left
     ·show Act.put _ (some 27) _ = _
      simp only [Act.put, zL, zM, zN, i64_w, i32_w]
      rfl
     refine done_ (by kernel_rfl) ?_
     try go_wp2
     go_roundg k1
     case measure => have := HK1.out; omega
     case rel => exact ⟨(wrap64 (x7_1 + 1)), zs, H', ⟨by have := HK1.out; omega⟩, ⟨zR BK368.out⟩, ⟨zT HB.out GE368.out⟩⟩
    rw [if_neg c6] at H
    exact absurd H (by simp)
   rw [if_neg c5] at H
   have c5b0 : decide (x7_1 < (l1.length : Int)) = false := decide_eq_false c5
   clear c5
   obtain rfl := Option.some.inj H
   go_wp2
   go_ret
   exact ⟨zr, zT HB.out GE368.out⟩
def slices_Concat_int64_int64.f (l0 : List (List Int)) : Option (List Int) := if (l0.map List.length).sum < 17592186044416 then some l0.flatten else none
theorem pw_wrap64_id {x : Int} (h1 : -9223372036854775808 ≤ x) (h2 : x ≤ 9223372036854775807) : wrap64 x = x := by
 unfold wrap64
 omega
set_option maxHeartbeats 2000000 in
set_option maxRecDepth 100000 in
theorem grow_nil (n : Int) (h0 : 0 ≤ n) (hn : n < 17592186044416) (w : World) :
  Calls Tryd.prog 116 #[.slice none 0 0, .int .i64 n] w fun e w' => ∃ v0_ : Value, e = .returned (v0_) ∧ Kd.R (Kd.int .i64) 2 w' w.heap.size (fun _ => True) v0_ [] ∧ Below w.heap.size w w' := by
 have e0 : (n < 0) = False := by simp; omega
 by_cases hp : 0 < n
 ·have e1 : (0 < n) = True := by simp [hp]
  go_enter Tryd.func116, Tryd.ntmps116
  go_wp2_with (first | ((with_reducible refine gate_builtin (b := .append) (xs := #[.tmp 20, .tmp 21]) rfl ?_); at_builtin; refine Kd.R_append_zeros (Kd.int .i64) (w0 := w) w.heap.size rfl (.tmp 20) (.tmp 21) 24 3 2 (.int .i64 0) 8 rfl Tryd.underlying24 Tryd.underlying3 info2 rfl (by decide) (by omega) (.slice none 0 0) [] 0 n (fun _ => True) rfl rfl rfl (fun _ _ => trivial) (jO _ _ _ _ _) h0 (kW _ _) (Nat.le_refl _) (by simp; omega) ?_; intro v1 w1 ho hb hg hat; have hs := kM ho; obtain ⟨A1, c1, rfl⟩ := hs; have HO := zA (Kd.R_take ho (Nat.zero_le _)); have HB := zA hb; clear ho hb hg hat))
  go_ret
  exact ⟨_, rfl, HO.out, HB.out⟩
 have e1 : n = 0 := by omega
 subst e1
 go_enter Tryd.func116, Tryd.ntmps116
 go_wp2
 go_ret
 exact ⟨_, rfl, jO _ _ _ _ _, kW _ _⟩
theorem take_sum_step (l : List (List Int)) (k : Nat) (hk : k < l.length) : ((l.take (k + 1)).map List.length).sum = ((l.take k).map List.length).sum + (l.getD k []).length := by
 rw [List.take_add_one, List.getElem?_eq_getElem hk, List.map_append, List.sum_append]
 simp [List.getD_eq_getElem?_getD, hk]
theorem take_sum_le (l : List (List Int)) (k : Nat) : ((l.take k).map List.length).sum ≤ (l.map List.length).sum := by
 have h : (l.map List.length).sum = ((l.take k).map List.length).sum + ((l.drop k).map List.length).sum := by
  rw [← List.sum_append, ← List.map_append, List.take_append_drop]
 omega
theorem take_flatten_step (l : List (List Int)) (k : Nat) (hk : k < l.length) : (l.take (k + 1)).flatten = (l.take k).flatten ++ l.getD k [] := by
 rw [List.take_add_one, List.getElem?_eq_getElem hk, List.flatten_append]
 simp [List.getD_eq_getElem?_getD, hk]
set_option maxHeartbeats 4000000 in
set_option maxRecDepth 100000 in
theorem slices_Concat_int64_int64.calls (A0 : Option Addr) (c0 : Nat) (l0 : List (List Int)) (r : List Int) (w : World) (hr0 : Kd.C (Kd.slice 24 (Kd.int .i64)) w A0 l0.length l0) (hc0 : l0.length ≤ c0) (h : slices_Concat_int64_int64.f l0 = some r) :
  Calls Tryd.prog 73 #[.slice A0 l0.length c0] w fun e w' => ∃ v0_ : Value, e = .returned (v0_) ∧ Kd.R (Kd.int .i64) 2 w' w.heap.size (fun _ => True) v0_ r ∧ Below w.heap.size w w' := by
 unfold slices_Concat_int64_int64.f at h
 by_cases hT : (l0.map List.length).sum < 17592186044416
 ·rw [if_pos hT] at h
  obtain rfl := Option.some.inj h
  clear h hc0
  have hl : l0.length ≤ 9223372036854775807 := hr0.2.1
  have HR0 := zA hr0
  have HT := zA hT
  clear hr0 hT
  go_enter Tryd.func73, Tryd.ntmps73
  go_wp2
  go_loopg [3, 5, 11] l0.length (fun gg v3 _ v11 wr => ∃ kk : Nat, kk ≤ l0.length ∧ l0.length - kk ≤ gg ∧ v3 = .int .i64 (((l0.take kk).map List.length).sum : Nat) ∧ v11 = .int .i64 kk ∧ Aside0 (Below w.heap.size w wr))
  case atStart => exact ⟨0, Nat.zero_le _, by omega, by simp, rfl, ⟨kW _ _⟩⟩
  case round =>
   obtain ⟨kk, hkk, hg, rfl, rfl, HB⟩ := hrel
   by_cases hlt : kk < l0.length
   ·have hltz : (kk : Int) < (l0.length : Int) := by omega
    obtain ⟨ad, A1, c1, e0, hcell, hc1, hC1⟩ := at_row HR0.out kk hlt
    cases e0
    have S1 := zA (take_sum_step l0 kk hlt)
    have S2 := zA (take_sum_le l0 (kk + 1))
    replace hcell := pw_cell_below HB.out hcell
    clear hc1 hC1
    generalize hy : l0.getD kk [] = y at hcell S1
    generalize ((l0.take kk).map List.length).sum = s at S1 ⊢
    clear hy
    have hn : ¬ (wrap64 ((s : Int) + (y.length : Int)) < 0) := by
     have h1 := S1.out
     have h2 := S2.out
     have h3 := HT.out
     rw [pw_wrap64_id (by omega) (by omega)]; omega
    go_wp2
    go_roundg (l0.length - (kk + 1))
    case measure => omega
    case rel =>
     refine ⟨kk + 1, by omega, by omega, ?_, by go_num, ?_⟩
     ·rw [S1.out]
      have h1 := S1.out
      have h2 := S2.out
      have h3 := HT.out
      rw [pw_wrap64_id (by omega) (by omega)]; simp
     exact HB
   have hltz : ¬ (kk : Int) < (l0.length : Int) := by omega
   have : kk = l0.length := by omega
   subst this
   rw [List.take_length]
   have hF : ∀ kk, kk ≤ l0.length → ((l0.take kk).flatten).length ≤ (l0.map List.length).sum := fun kk _ => by
    rw [List.length_flatten]; exact take_sum_le l0 kk
   replace hF := zA hF
   generalize (l0.map List.length).sum = s at HT hF ⊢
   have hcall := grow_nil (s : Int) (by omega) (by have := HT.out; omega) wr
   replace hcall := zA hcall
   go_wp2_with fail
   refine hcall.out.mono ?_
   rintro e w1 ⟨v1, rfl, ho, hb⟩
   have HO := zA (kI ho HB.out.size)
   have HB1 := zA (kQ HB.out hb)
   clear hcall ho hb
   go_wp2
   go_loopg [6, 8, 27] l0.length (fun gg v6 _ v27 wr => ∃ kk : Nat, kk ≤ l0.length ∧ l0.length - kk ≤ gg ∧ v27 = .int .i64 kk ∧ Aside0 (Kd.R (Kd.int .i64) 2 wr w.heap.size (fun _ => True) v6 (l0.take kk).flatten) ∧ Aside0 (Below w.heap.size w wr))
   case atStart => exact ⟨0, Nat.zero_le _, by omega, rfl, ⟨by simpa using HO.out⟩, HB1⟩
   case round =>
    clear HO HB1 HB
    obtain ⟨kk, hkk, hg, rfl, HO, HB⟩ := hrel
    by_cases hlt : kk < l0.length
    ·have hltz : (kk : Int) < (l0.length : Int) := by omega
     obtain ⟨ad, A1, c1, e0, hcell, hc1, hC1⟩ := at_row HR0.out kk hlt
     cases e0
     have S1 := zA (take_flatten_step l0 kk hlt)
     have S2 := zA (hF.out (kk + 1) (by omega))
     replace hcell := pw_cell_below HB.out hcell
     replace hC1 := zA (kO hC1 HB.out)
     clear hc1
     generalize hy : l0.getD kk [] = y at hcell S1 hC1
     clear hy
     generalize hz : (l0.take kk).flatten = z at HO S1
     clear hz
     have hlen : z.length + y.length ≤ s := by
      have h2 := S2.out
      rw [S1.out, List.length_append] at h2
      exact h2
     have HLN := zA hlen
     clear hlen
     go_wp2_with (first | ((with_reducible refine gate_builtin (b := .append) (xs := #[.tmp 31, .tmp 32]) rfl ?_); at_builtin; refine Kd.R_append_rows (Kd.int .i64) (w0 := w) w.heap.size rfl (.tmp 31) (.tmp 32) 24 2 (.int .i64 0) 8 rfl Tryd.underlying24 info2 rfl (by decide) (by omega) u6 z y _ _ _ (fun _ => True) (fun _ => False) rfl rfl ?aO ?aR (fun _ _ h => h) (fun _ h => h.elim) (fun _ _ => trivial) ?aB ?aS (by have := HLN.out; have := HT.out; omega) ?_; (case aR => exact zS hC1.out); (case aO => (with_reducible repeat (first | apply zF | apply zG | apply zH)); exact HO.out); (case aB => exact zQ HB.out); (case aS => exact kP (zQ HB.out)); intro v6 w6 ho hb hg_ hat; have HO' := zA ho; have HB' := zA hb; clear ho hb hg_ hat))
     go_roundg (l0.length - (kk + 1))
     case measure => omega
     case rel => exact ⟨kk + 1, by omega, by omega, by go_num, ⟨by rw [S1.out]; exact HO'.out⟩, HB'⟩
    have hltz : ¬ (kk : Int) < (l0.length : Int) := by omega
    have : kk = l0.length := by omega
    subst this
    go_wp2
    go_ret
    refine ⟨_, rfl, ?_, HB.out⟩
    have := HO.out
    rw [List.take_length] at this
    exact this
 rw [if_neg hT] at h
 cases h
def slices_Index_int64_int64.l0 : Nat → List Int → Int → Int → Int → Option (Int)
 | 0, _, _, _, _ => none
 | k + 1, x0, x1, x7, x8 => if x8 < x7 then (if 0 ≤ x8 then (if x8 < (x0.length : Int) then (if x1 = (rd x0 x8) then (some x8) else (slices_Index_int64_int64.l0 k x0 x1 x7 (wrap64 (x8 + 1)))) else (none)) else (none)) else (some (-1))
def slices_Index_int64_int64.f (k : Nat) (l0 : List Int) (a1 : Int) : Option (Int) := slices_Index_int64_int64.l0 k l0 a1 (l0.length : Int) 0
set_option maxHeartbeats 8000000 in
set_option maxRecDepth 100000 in
theorem slices_Index_int64_int64.calls (k : Nat) (A0 : Option Addr) (c0 : Nat) (l0 : List Int) (a1 : Int) (r : Int) (w : World) (hr0 : Kd.C (Kd.int .i64) w A0 l0.length l0) (hc0 : l0.length ≤ c0) (h : slices_Index_int64_int64.f k l0 a1 = some r) :
  Calls Tryd.prog 113 #[.slice A0 l0.length c0, .int .i64 a1] w fun e w' => e = .returned (.int .i64 r) ∧ Drawn0 w w' := by
 have HR0 := zA hr0
 have HC0 := zA hc0
 clear hr0 hc0
 have H := h
 unfold slices_Index_int64_int64.f at H
 clear h
 have H' := zA H
 clear H
 go_enter Tryd.func113, Tryd.ntmps113
 go_wp2
 go_loopg [8] k (fun kq v8 w' => ∃ (x8_1 : Int), v8 = .int .i64 x8_1 ∧ Aside0 (slices_Index_int64_int64.l0 kq l0 a1 (l0.length : Int) x8_1 = some r) ∧ Aside0 (kq ≤ k) ∧ Drawn0 w w')
 case atStart => exact ⟨(0), zs, H', ⟨Nat.le_refl _⟩, by repeat (first | exact Drawn0.refl _ | apply Drawn0.step)⟩
 case round =>
  clear H'
  try clear c1
  obtain ⟨x8_1, rfl, HA, HK1, ⟨m1, rfl⟩⟩ := hrel
  cases gk with
  | zero => exact absurd HA.out (by simp [slices_Index_int64_int64.l0])
  | succ k1 =>
   have H := HA.out
   clear HA
   simp only [slices_Index_int64_int64.l0] at H
   by_cases c3 : x8_1 < (l0.length : Int)
   ·rw [if_pos c3] at H
    have c3b0 : decide (x8_1 < (l0.length : Int)) = true := decide_eq_true c3
    clear c3
    by_cases c4 : 0 ≤ x8_1
    ·rw [if_pos c4] at H
     have c4b0 : decide (0 ≤ x8_1) = true := decide_eq_true c4
     clear c4
     by_cases c5 : x8_1 < (l0.length : Int)
     ·rw [if_pos c5] at H
      have c5b0 : decide (x8_1 < (l0.length : Int)) = true := decide_eq_true c5
      clear c5
      by_cases c6 : a1 = (rd l0 x8_1)
      ·rw [if_pos c6] at H
       obtain ⟨c6b0, c6b1⟩ := zT1 c6
       clear c6
       obtain rfl := Option.some.inj H
       have p411 : 0 ≤ (x8_1 : Int) := zd
       have q411 : x8_1 < (l0.length : Int) := zd
       obtain ⟨ad411, e411, hx411_0⟩ := Kd.at_int HR0.out x8_1 p411 q411
       cases e411
       replace p411 := eq_true p411
       replace q411 := eq_true q411
       go_wp2
       go_ret
       exact ⟨zs, by repeat (first | exact Drawn0.refl _ | apply Drawn0.step)⟩
      rw [if_neg c6] at H
      obtain ⟨c6b0, c6b1⟩ := zT2 c6
      have H' := zA H
      clear H
      have p411 : 0 ≤ (x8_1 : Int) := zd
      have q411 : x8_1 < (l0.length : Int) := zd
      obtain ⟨ad411, e411, hx411_0⟩ := Kd.at_int HR0.out x8_1 p411 q411
      cases e411
      replace p411 := eq_true p411
      replace q411 := eq_true q411
      go_wp2
      go_roundg k1
      case measure => have := HK1.out; omega
      case rel => exact ⟨(wrap64 (x8_1 + 1)), zs, H', ⟨by have := HK1.out; omega⟩, by repeat (first | exact Drawn0.refl _ | apply Drawn0.step)⟩
     rw [if_neg c5] at H
     exact absurd H (by simp)
    rw [if_neg c4] at H
    exact absurd H (by simp)
   rw [if_neg c3] at H
   have c3b0 : decide (x8_1 < (l0.length : Int)) = false := decide_eq_false c3
   clear c3
   obtain rfl := Option.some.inj H
   go_wp2
   go_ret
   exact ⟨zs, by repeat (first | exact Drawn0.refl _ | apply Drawn0.step)⟩
def slices_Index_int64_int64_BwithoutFirst.f (k : Nat) (l0 : List Int) (a1 : Int) : Option (Int) := slices_Index_int64_int64.f k l0 a1
theorem slices_Index_int64_int64_BwithoutFirst.calls (k : Nat) (A0 : Option Addr) (c0 : Nat) (l0 : List Int) (a1 : Int) (r : Int) (w : World) (hr0 : Kd.C (Kd.int .i64) w A0 l0.length l0) (hc0 : l0.length ≤ c0) (h : slices_Index_int64_int64_BwithoutFirst.f k l0 a1 = some r) :
 Calls Tryd.prog 113 #[.slice A0 l0.length c0, .int .i64 a1] w fun e w' => e = .returned (.int .i64 r) ∧ Below w.heap.size w w' := by
 refine (slices_Index_int64_int64.calls k A0 c0 l0 a1 r w hr0 hc0 h).mono ?_
 rintro e w' ⟨h1, h2⟩
 exact ⟨h1, Drawn0.below h2⟩
def impl_withoutFirst.f (k : Nat) (l0 : List Int) (a1 : Int) : Option (List Int) := (slices_Index_int64_int64_BwithoutFirst.f k l0 a1).bind fun t412 => (if 0 ≤ t412 then (if t412 ≤ (l0.length : Int) then (if 0 ≤ (wrap64 (t412 + 1)) then (if (wrap64 (t412 + 1)) ≤ (l0.length : Int) then ((slices_Concat_int64_int64.f (([(l0.take (t412 : Int).toNat), (l0.drop ((wrap64 (t412 + 1)) : Int).toNat)] : List (List Int)))).bind fun t426 => (some t426)) else (none)) else (none)) else (none)) else (none))
def impl_withoutFirst.T2 : Bool × List (List Nat × List Nat) := (true, [([], []), ([], []), ([0, 1], [0, 1]), ([], []), ([], []), ([4], [4]), ([3, 5], [3, 5]), ([2, 6], [2, 6]), ([7], [7]), ([8, 8, 0, 1, 2, 3, 4, 5, 6, 7, 8], [8])])
def impl_withoutFirst.B2 : List Nat := [0, 0, 3, 0, 0, 16, 56, 127, 255, 511]
theorem impl_withoutFirst.tab2 : rtab .any (opsOf Tryd.f63 2) = impl_withoutFirst.T2 := by kernel_rfl
theorem impl_withoutFirst.bits2 : waitsOk impl_withoutFirst.T2.2 impl_withoutFirst.B2 = true := by kernel_rfl
set_option maxHeartbeats 8000000 in
set_option maxRecDepth 100000 in
theorem impl_withoutFirst.calls (k : Nat) (P0_ : Nat → Prop) (A0 : Option Addr) (c0 : Nat) (l0 : List Int) (a1 : Int) (r : List Int) (w : World) (hs0 : Kd.V (Kd.int .i64) 2 w w.heap.size (fun k_ => P0_ k_) (.slice A0 l0.length c0) l0) (h : impl_withoutFirst.f k l0 a1 = some r) :
  Calls Tryd.prog 63 #[.slice A0 l0.length c0, .int .i64 a1] w fun e w' => ∃ v0_ : Value, e = .returned (v0_) ∧ Kd.R (Kd.int .i64) 2 w' w.heap.size (fun k_ => (w.heap.size ≤ k_)) v0_ r ∧ Below w.heap.size w w' := by
 have HO0 := zA (show Kd.V (Kd.int .i64) 2 w w.heap.size (fun k_ => (P0_ k_ ∨ w.heap.size ≤ k_)) (.slice A0 l0.length c0) l0 from kN hs0 (fun k_ hk => .inl hk))
 have HB := zA (kW w.heap.size w)
 have H := h
 unfold impl_withoutFirst.f at H
 clear h
 obtain ⟨t412, A3, H⟩ := zb H
 try dsimp only at H
 by_cases c4 : 0 ≤ t412
 ·rw [if_pos c4] at H
  have c4b0 := eq_true c4
  have c4b1 : decide (0 ≤ t412) = true := decide_eq_true c4
  clear c4
  by_cases c5 : t412 ≤ (l0.length : Int)
  ·rw [if_pos c5] at H
   have c5b0 := eq_true c5
   have c5b1 : decide (t412 ≤ (l0.length : Int)) = true := decide_eq_true c5
   clear c5
   obtain ⟨y413, hy413⟩ : ∃ y_ : List Int, y_ = (l0.take (t412 : Int).toNat) := ⟨_, rfl⟩
   replace H : (if 0 ≤ (wrap64 (t412 + 1)) then (if (wrap64 (t412 + 1)) ≤ (l0.length : Int) then ((slices_Concat_int64_int64.f (([y413, (l0.drop ((wrap64 (t412 + 1)) : Int).toNat)] : List (List Int)))).bind fun t426 => (some t426)) else (none)) else (none)) = some r := zy hy413 H
   have Ny413 := zA hy413
   clear hy413
   obtain ⟨ji6, hji6⟩ : ∃ j_ : Int, (wrap64 (t412 + 1)) = j_ := ⟨_, rfl⟩
   replace H : (if 0 ≤ (ji6) then (if (ji6) ≤ (l0.length : Int) then ((slices_Concat_int64_int64.f (([y413, (l0.drop ((ji6) : Int).toNat)] : List (List Int)))).bind fun t426 => (some t426)) else (none)) else (none)) = some r := by first | (rw [hji6] at H; exact H) | (simp only [hji6] at H ⊢; exact H)
   (try rw [hji6] at A3)
   have hji6w : (IntKind.i64.wrap (t412 + 1)) = ji6 := (i64_w _).trans hji6
   by_cases c7 : 0 ≤ (ji6)
   ·rw [if_pos c7] at H
    have c7b0 := eq_true c7
    have c7b1 : decide (0 ≤ (ji6)) = true := decide_eq_true c7
    clear c7
    by_cases c8 : (ji6) ≤ (l0.length : Int)
    ·rw [if_pos c8] at H
     have c8b0 := eq_true c8
     have c8b1 : decide ((ji6) ≤ (l0.length : Int)) = true := decide_eq_true c8
     clear c8
     obtain ⟨y418, hy418⟩ : ∃ y_ : List Int, y_ = (l0.drop ((ji6) : Int).toNat) := ⟨_, rfl⟩
     replace H : ((slices_Concat_int64_int64.f (([y413, y418] : List (List Int)))).bind fun t426 => (some t426)) = some r := zy hy418 H
     have Ny418 := zA hy418
     clear hy418
     obtain ⟨y423, hy423⟩ : ∃ y_ : List (List Int), y_ = (([y413, y418] : List (List Int))) := ⟨_, rfl⟩
     replace H : ((slices_Concat_int64_int64.f y423).bind fun t426 => (some t426)) = some r := zy hy423 H
     have Ny423 := zA hy423
     clear hy423
     obtain ⟨t426, A9, H⟩ := zb H
     try dsimp only at H
     obtain rfl := Option.some.inj H
     go_enter Tryd.func63, Tryd.ntmps63
     try go_wp2_with (first | (refine zO (some 8) Tryd.func113 #[.slice A0 l0.length c0, .int .i64 a1] ?_; (with_reducible refine (slices_Index_int64_int64_BwithoutFirst.calls k _ _ l0 a1 t412 _ ?side1 ?side2 A3.out).mono ?_); (case side1 => exact zS (kJ HO0.out).2.2); (case side2 => exact (kJ HO0.out).2.1); rintro e w10 ⟨rfl, hb⟩; refine ⟨_, rfl, ?_⟩; replace HO0 := zA (kG (zPV HO0.out) hb); replace HB := zA (kQ (zQ HB.out) hb); (try clear hb)))
     replace HO0 := zA (Kd.V_drew HO0.out)
     replace HB := zA (zD HB.out)
     have q12 : (t412 : Int) ≤ ((l0.length : Int) : Int) := zd
     obtain ⟨i012, hi012, _, hsz12, _⟩ := info_parts info2
     have hroom12 : l0.length ≤ c0 := (kJ HO0.out).2.1
     have hC12 : Kd.F (Kd.int .i64) _ _ A0 l0.length l0 := (Kd.V_at (base := w.heap.size) HO0.out).2.2
     have hcut12 := cut_to (P := Tryd.prog) 24 2 .i64 Tryd.underlying24 hi012 A0 l0.length c0 t412 (zd) q12 hroom12
     have hr12 := Kd.F_take (m := (t412 : Int).toNat) hC12 (by omega)
     have hy12 : y413.length = (t412 : Int).toNat := (by rw [Ny413.out, List.length_take]; omega)
     rw [← Ny413.out] at hr12
     rw [← hy12] at hcut12
     have HO417 := zA (show Kd.V (Kd.int .i64) 2 _ w.heap.size _ (.slice A0 y413.length c0) y413 from Kd.V_mk (by omega) hr12)
     have HC417 := zA (show y413.length ≤ c0 from by omega)
     clear hr12 hC12 hroom12 hi012 hsz12
     have KY12 := zA hy12
     clear hy12
     replace q12 := eq_true q12
     have q13 : ((ji6) : Int) ≤ ((l0.length : Int) : Int) := zd
     obtain ⟨i013, hi013, _, hsz13, _⟩ := info_parts info2
     have hroom13 : l0.length ≤ c0 := (kJ HO0.out).2.1
     have hC13 : Kd.F (Kd.int .i64) _ _ A0 l0.length l0 := (Kd.V_at (base := w.heap.size) HO0.out).2.2
     have q013 : (0 : Int) ≤ ((ji6) : Int) := zd
     have hcut13 := cut_from (P := Tryd.prog) 24 2 .i64 Tryd.underlying24 hi013 1 hsz13 A0 l0.length c0 (ji6) q013 q13
     have hr13 := Kd.F_cut (m := ((ji6) : Int).toNat) (c := c0) hC13 (by omega) hroom13
     obtain ⟨A13, hA13⟩ : ∃ A1, A1 = (if c0 = ((ji6) : Int).toNat then A0 else (A0 : Option Addr).map (·.add (((ji6) : Int).toNat * 1))) := ⟨_, rfl⟩
     obtain ⟨c13, hc13⟩ : ∃ c1, c1 = c0 - ((ji6) : Int).toNat := ⟨_, rfl⟩
     have hy13 : y418.length = l0.length - ((ji6) : Int).toNat := (by rw [Ny418.out, List.length_drop] <;> omega)
     rw [show (l0).drop ((ji6) : Int).toNat = y418 from Ny418.out.symm] at hr13
     replace hr13 : Kd.F (Kd.int .i64) _ _ A13 y418.length y418 := (by rw [hA13]; exact hr13)
     rw [← hy13, ← hA13, ← hc13] at hcut13
     have HO422 := zA (show Kd.V (Kd.int .i64) 2 _ w.heap.size _ (.slice A13 y418.length c13) y418 from Kd.V_mk (by rw [hy13, hc13]; exact Nat.sub_le_sub_right hroom13 _) hr13)
     have HC422 := zA (show y418.length ≤ c13 from by rw [hy13, hc13]; exact Nat.sub_le_sub_right hroom13 _)
     clear hr13 hC13 hroom13 hi013 hsz13 hc13
     have KY13 := zA hy13
     have KA13 := zA hA13
     clear hy13 hA13
     replace q13 := eq_true q13
     refine start_ (n := 10) (S := fun w' => True) (ds := []) #[false, false, false, false, false, false, false, false, false, false] (by kernel_rfl) rfl rfl trivial (fun hHeld => ?_); refine with_tabW impl_withoutFirst.tab2 impl_withoutFirst.bits2 (fun HT_ HW_ => ?_)
     generalize w10.drew = w11 at HO0 HB HO417 HO422 hHeld ⊢
     refine zp 0 (some 9) #[true, false, false, false, false, false, false, false, false, false] HT_.out ?_
     refine zp 1 (some 10) #[true, true, false, false, false, false, false, false, false, false] HT_.out ?_
     refine zp 2 (some 11) #[true, true, true, false, false, false, false, false, false, false] HT_.out ?_
     refine zp 3 (some 12) #[true, true, true, true, false, false, false, false, false, false] HT_.out ?_
     refine zp 4 (some 13) #[true, true, true, true, true, false, false, false, false, false] HT_.out ?_
     refine zp 5 (some 14) #[true, true, true, true, true, true, false, false, false, false] HT_.out ?_
     refine zp 6 (some 15) #[true, true, true, true, true, true, true, false, false, false] HT_.out ?_
     refine one_ (i := 7) (N := some 16) #[true, true, true, true, true, true, true, true, false, false] rfl rfl (one_of HT_.out (by kernel_rfl)) (by decide) (fun K hK => ?_)
     refine Kd.N_lit_step (Kd.slice 2 (Kd.int .i64)) _ 24 ?hg (N' := 16) ?hd (xs := ([y413, y418] : List (List Int))) (inner := [.slice A0 y413.length c0, .slice A13 y418.length c13]) (ok := (fun k_ => (P0_ k_ ∨ w.heap.size ≤ k_))) (okp := (fun k_ => (P0_ k_ ∨ w.heap.size ≤ k_))) ?hr ?hp (fun _ hk => hk) ((show ∀ k_ : Nat, (_ : Nat) ≤ k_ → (fun k_ => (P0_ k_ ∨ w.heap.size ≤ k_)) k_ from fun k_ hk => (.inr (Nat.le_trans (kP (zQ HB.out)) hk))) _ (Nat.le_refl _)) (kW _ _) (Nat.le_refl _) (by simp) ?_; (case hd => rfl); (case hg => rfl); (case hr => first | (go_simp; done) | (go_simp; rfl)); (case hp => exact (Reps.one (show Kd.FK (Kd.slice 2 (Kd.int .i64)) _ _ y413 [.slice A0 y413.length c0] from (zFK (kN (ok' := (fun k_ => (P0_ k_ ∨ w.heap.size ≤ k_))) (HO417.out) (fun k_ hk => hk)))) (Reps.one (show Kd.FK (Kd.slice 2 (Kd.int .i64)) _ _ y418 [.slice A13 y418.length c13] from (zFK (kN (ok' := (fun k_ => (P0_ k_ ∨ w.heap.size ≤ k_))) (HO422.out) (fun k_ hk => hk)))) (Reps.none _ _))))
     intro v424 w14 ho15 hb hg_ hnew_
     clear hg_ hnew_
     (first | rw [← Ny423.out] at ho15 | (simp only [Int.reduceToNat] at ho15; rw [← Ny423.out] at ho15))
     replace HO0 := zA (kK (zPV HO0.out) (Kd.N_base ho15) hb)
     replace HO417 := zA (kK (zPV HO417.out) (Kd.N_base ho15) hb)
     replace HO422 := zA (kK (zPV HO422.out) (Kd.N_base ho15) hb)
     have HO425 := zA (jN ho15 (kP (zQ HB.out)))
     replace HB := zA (kQ (zQ HB.out) hb)
     clear hb ho15
     obtain ⟨Ao16, co16, eo16⟩ := Kd.N_slice HO425.out
     (first | subst eo16 | (injection eo16 with f1_ f2_ f3_; have f4_ := f1_.symm; have f5_ := f3_.symm; clear f1_ f2_ f3_; subst f4_; subst f5_))
     refine hK.out _ _ trivial (fun hHeld => ?_)
     clear hK K
     refine norm_ (a' := ?_) ?_ ?_
     rotate_left
     ·show Act.put _ (some 16) _ = _
      simp only [Act.put, zL, zM, zN, i64_w, i32_w]
      rfl
     refine one_ (i := 8) (N := some 17) #[true, true, true, true, true, true, true, true, true, false] rfl rfl (one_of HT_.out (by kernel_rfl)) (by decide) (fun K hK => ?_)
     refine goes_ Tryd.func73 (by kernel_rfl) rfl #[.slice Ao16 y423.length co16] (by rfl) rfl rfl zg ?_
     with_reducible refine (slices_Concat_int64_int64.calls _ _ y423 t426 _ ?side1 ?side2 A9.out).mono ?_
     (case side1 => exact zS (Kd.N_reads' HO425.out).2.2)
     (case side2 => exact (Kd.N_reads' HO425.out).2.1)
     rintro e w17 ⟨v427, rfl, ho0, hb⟩
     refine ⟨_, rfl, ?_⟩
     replace HO0 := zA (kK (zPV HO0.out) (kC ho0) hb)
     replace HO417 := zA (kK (zPV HO417.out) (kC ho0) hb)
     replace HO422 := zA (kK (zPV HO422.out) (kC ho0) hb)
     replace HO425 := zA (Kd.N_elder' (zPN HO425.out) (kC ho0) hb)
     have HO428 := zA (kI (Kd.R_newM (M := fun k_ => (w.heap.size ≤ k_)) ho0 (kP (zQ HB.out)) (fun k_ h_ => h_)) (kP (zQ HB.out)))
     replace HB := zA (kQ (zQ HB.out) hb)
     (try clear hb)
     (try clear hb2)
     (try clear hk)
     (try clear hi)
     (try clear hgw)
     (try clear ho0)
     refine hK.out _ _ trivial (fun hHeld => ?_)
     clear hK K
     refine norm_ (a' := ?_) ?_ ?_
     rotate_left
     ·show Act.put _ (some 17) _ = _
      simp only [Act.put, zL, zM, zN, i64_w, i32_w]
      rfl
     refine zp 9 (some 4) #[true, true, true, true, true, true, true, true, true, true] HT_.out ?_
     refine done_ (done_of HT_.out (by kernel_rfl)) ?_
     try go_wp2
     go_ret
     exact ⟨_, by first | rfl | (simp [errW_none, errW_some] <;> rfl) | (simp only [← hji6]; first | rfl | (simp [errW_none, errW_some] <;> rfl)) | (simp [*, errW_none, errW_some] <;> rfl), by (with_reducible repeat (first | apply zF | apply zG | apply zH)); exact kA HO428.out (fun _ hk => hk.1), zQ HB.out⟩
    rw [if_neg c8] at H
    exact absurd H (by simp)
   rw [if_neg c7] at H
   exact absurd H (by simp)
  rw [if_neg c5] at H
  exact absurd H (by simp)
 rw [if_neg c4] at H
 exact absurd H (by simp)
def impl_ties_normal.l0 : Nat → List Int → List Int → List Int → Option (List Int)
 | 0, _, _, _ => none
 | k + 1, x0, x5, x6 => if (x6.length : Int) > 0 then ((impl_ties_firsts.f k x0 x6).bind fun t432 => ((impl_least.f t432).bind fun t433 => (if x5.length < 17592186044416 then ((impl_withoutFirst.f k x6 t433).bind fun t437 => (impl_ties_normal.l0 k x0 (x5 ++ [t433]) t437)) else (none)))) else (some x5)
def impl_ties_normal.f (k : Nat) (l0 : List Int) (l1 : List Int) : Option (List Int) := if 0 ≤ (l1.length : Int) then (if ((l1.length : Int) : Int).toNat ≤ 35184372088832 then (impl_ties_normal.l0 k l0 (([] : List Int)) l1) else (none)) else (none)
set_option maxHeartbeats 8000000 in
set_option maxRecDepth 100000 in
theorem impl_ties_normal.calls (k : Nat) (A0 : Option Addr) (c0 : Nat) (l0 : List Int) (P1_ : Nat → Prop) (A1 : Option Addr) (c1 : Nat) (l1 : List Int) (r : List Int) (w : World) (hr0 : Kd.C (Kd.int .i64) w A0 l0.length l0) (hc0 : l0.length ≤ c0) (hs1 : Kd.V (Kd.int .i64) 2 w w.heap.size (fun k_ => P1_ k_) (.slice A1 l1.length c1) l1) (hT : TabW w) (h : impl_ties_normal.f k l0 l1 = some r) :
  Calls Tryd.prog 56 #[.slice A0 l0.length c0, .slice A1 l1.length c1] w fun e w' => ∃ v0_ : Value, e = .returned (v0_) ∧ Kd.R (Kd.int .i64) 2 w' w.heap.size (fun k_ => (w.heap.size ≤ k_)) v0_ r ∧ Below w.heap.size w w' := by
 have HT := zA hT
 clear hT
 have HR0 := zA hr0
 have HC0 := zA hc0
 clear hr0 hc0
 have HO1 := zA (show Kd.V (Kd.int .i64) 2 w w.heap.size (fun k_ => (P1_ k_ ∨ w.heap.size ≤ k_)) (.slice A1 l1.length c1) l1 from kN hs1 (fun k_ hk => .inl hk))
 have HB := zA (kW w.heap.size w)
 have H := h
 unfold impl_ties_normal.f at H
 clear h
 by_cases c3 : 0 ≤ (l1.length : Int)
 ·rw [if_pos c3] at H
  have c3b0 := eq_true c3
  have c3b1 : decide (0 ≤ (l1.length : Int)) = true := decide_eq_true c3
  clear c3
  by_cases c4 : ((l1.length : Int) : Int).toNat ≤ 35184372088832
  ·rw [if_pos c4] at H
   have c4b0 := eq_true c4
   have c4b1 : decide (((l1.length : Int) : Int).toNat ≤ 35184372088832) = true := decide_eq_true c4
   clear c4
   obtain ⟨y429, hy429⟩ : ∃ y_ : List Int, y_ = (([] : List Int)) := ⟨_, rfl⟩
   replace H : (impl_ties_normal.l0 k l0 y429 l1) = some r := zy hy429 H
   have Ny429 := zA hy429
   clear hy429
   have H' := zA H
   clear H
   go_enter Tryd.func56, Tryd.ntmps56
   go_wp2_with (first | ((with_reducible refine kS (N := 10) rfl ?_); refine Kd.R_make0 (Kd.int .i64) _ 2 rfl (N := 10) rfl 24 _ _ rfl (l1.length : Int) rfl rfl Tryd.underlying24 (.int .i64 0) 8 info2 rfl (by decide) (by omega) 0 (ok := fun _ => True) (okp := fun _ => True) rfl (fun _ hk => hk) trivial (zd) (Nat.le_trans (Nat.mul_le_mul_right _ (zd : (l1.length : Int).toNat ≤ 35184372088832)) (by omega)) (kW _ _) (Nat.le_refl _) ?_; intro v430 w5 ho6 hb hg_ hnew_; clear hg_ hnew_; (first | rw [← Ny429.out] at ho6 | (simp only [Int.reduceToNat] at ho6; rw [← Ny429.out] at ho6)); replace HO1 := zA (kK (zPV HO1.out) (kC ho6) hb); have HO431 := zA (kI (Kd.R_newM (M := fun k_ => (w.heap.size ≤ k_)) ho6 (kP (zQ HB.out)) (fun k_ h_ => h_)) (kP (zQ HB.out))); replace HB := zA (kQ (zQ HB.out) hb); clear hb ho6))
   go_loopg [5, 6] k (fun kq v5 v6 w' => ∃ (x5_1 : List Int) (x6_1 : List Int), Aside0 (impl_ties_normal.l0 kq l0 x5_1 x6_1 = some r) ∧ Aside0 (kq ≤ k) ∧ Aside0 (Kd.R (Kd.int .i64) 2 w' w.heap.size (fun k_ => (w.heap.size ≤ k_)) v5 x5_1) ∧ Aside0 (Kd.V (Kd.int .i64) 2 w' w.heap.size (fun k_ => (P1_ k_ ∨ w.heap.size ≤ k_) ∧ some k_ ≠ (v5 : Value).ownBlock) v6 x6_1) ∧ Aside0 (Below w.heap.size w w'))
   case atStart => exact ⟨(y429), (l1), H', ⟨Nat.le_refl _⟩, ⟨zPM HO431.out (fun _ hk => hk.1)⟩, ⟨zPV HO1.out⟩, ⟨zQ HB.out⟩⟩
   case round =>
    clear H'
    try clear c1
    try clear c3
    try clear c4
    try clear c5
    obtain ⟨x5_1, x6_1, HA, HK1, HO_5, HO_6, HB⟩ := hrel
    cases gk with
    | zero => exact absurd HA.out (by simp [impl_ties_normal.l0])
    | succ k1 =>
     have H := HA.out
     clear HA
     simp only [impl_ties_normal.l0] at H
     by_cases c7 : (x6_1.length : Int) > 0
     ·rw [if_pos c7] at H
      have c7b0 : decide (0 < (x6_1.length : Int)) = true := decide_eq_true c7
      have c7b1 : decide (0 < x6_1.length) = true := decide_eq_true (by omega)
      clear c7
      obtain ⟨t432, A8, H⟩ := zb H
      try dsimp only at H
      obtain ⟨t433, A9, H⟩ := zb H
      try dsimp only at H
      by_cases c10 : x5_1.length < 17592186044416
      ·rw [if_pos c10] at H
       have LMc10 := zA c10
       clear c10
       obtain ⟨y434, hy434⟩ : ∃ y_ : List Int, y_ = (x5_1 ++ [t433]) := ⟨_, rfl⟩
       replace H : ((impl_withoutFirst.f k1 x6_1 t433).bind fun t437 => (impl_ties_normal.l0 k1 l0 y434 t437)) = some r := zy hy434 H
       have Ny434 := zA hy434
       clear hy434
       obtain ⟨t437, A11, H⟩ := zb H
       try dsimp only at H
       have H' := zA H
       clear H
       obtain ⟨Ao12, co12, eo12⟩ := Kd.V_slice HO_6.out
       subst eo12
       go_wp2_with (first | (refine zO (some 17) Tryd.func51 #[.slice A0 l0.length c0, .slice Ao12 x6_1.length co12] ?_; (with_reducible refine (impl_ties_firsts.calls k1 _ _ l0 _ _ x6_1 t432 _ ?side1 ?side2 ?side3 ?side4 A8.out).mono ?_); (case side1 => exact zS (kO HR0.out HB.out)); (case side2 => exact HC0.out); (case side3 => exact zS (kJ HO_6.out).2.2); (case side4 => exact (kJ HO_6.out).2.1); rintro e w' ⟨rfl, ⟨nd, rfl⟩⟩; refine ⟨_, rfl, ?_⟩) | (refine zO (some 18) Tryd.func62 #[.int .i64 t432] ?_; (with_reducible refine (impl_least.calls t432 t433 _ ?side1 A9.out).mono ?_); (case side1 => exact TabW.below HT.out (zQ HB.out)); rintro e w' ⟨rfl, ⟨nd, rfl⟩⟩; refine ⟨_, rfl, ?_⟩) | ((with_reducible refine gate_builtin (b := .append) (xs := #[.tmp 19, .tmp 21]) rfl ?_); at_builtin; refine Kd.R_append (Kd.int .i64) (w0 := w) w.heap.size rfl (.tmp 19) (.tmp 21) 24 2 (.int .i64 0) 8 rfl Tryd.underlying24 info2 rfl (by decide) (by omega) u5 x5_1 t433 [.int .i64 t433] (fun k_ => (w.heap.size ≤ k_)) (fun _ => False) rfl rfl ?aP (fun _ hk => hk.elim) ?aF ?aO ?aB ?aS ?aL ?_; (case aP => exact rfl); (case aB => exact (zQ HB.out)); (case aF => exact (fun k_ hk => (Nat.le_trans (kP (zQ HB.out)) hk))); (case aO => exact (zP HO_5.out)); (case aS => exact (kP (zQ HB.out))); (case aL => have := LMc10.out; omega); intro v435 w13 ho hb hg hat; rw [← Ny434.out] at ho; replace HO_6 := zA (Kd.V_afterv (ok := (fun k_ => (P1_ k_ ∨ w.heap.size ≤ k_))) (zPV HO_6.out) hg hat); replace HB := zA (hb); have HO436 := zA (ho); clear HO_5; clear ho hb hg hat) | (refine zO (some 25) Tryd.func63 #[.slice Ao12 x6_1.length co12, .int .i64 t433] ?_; (with_reducible refine (impl_withoutFirst.calls k1 (fun k_ => ((P1_ k_ ∨ w.heap.size ≤ k_) ∧ some k_ ≠ (v435 : Value).ownBlock)) _ _ x6_1 t433 t437 _ ?side1 A11.out).mono ?_); (case side1 => exact HO_6.out); rintro e w14 ⟨v438, rfl, ho0, hb⟩; refine ⟨_, rfl, ?_⟩; replace HO_6 := zA (kK (zPV HO_6.out) (kC ho0) hb); have HO439 := zA (kI (kF (Kd.R_newM (M := fun k_ => (w.heap.size ≤ k_)) (kA (ok' := fun k_ => True) ho0 (fun _ hk_ => trivial)) (kP (zQ HB.out)) (fun k_ h_ => h_)) (kH (zP HO436.out))) (kP (zQ HB.out))); replace HO436 := zA (kE (zP HO436.out) (kC ho0) hb); replace HB := zA (kQ (zQ HB.out) hb); (try clear hb); (try clear ho0)))
       go_roundg k1
       case measure => have := HK1.out; omega
       case rel => exact ⟨(y434), (t437), H', ⟨by have := HK1.out; omega⟩, ⟨zPM HO436.out (fun _ hk => hk.1)⟩, ⟨kN (jL (zP HO439.out)) (fun k_ hk => by first | exact ⟨(.inr (hk.1.1)), hk.2⟩ | exact ⟨(.inr (hk.1)), hk.2⟩ | exact (.inr (hk)))⟩, ⟨zQ HB.out⟩⟩
      rw [if_neg c10] at H
      exact absurd H (by simp)
     rw [if_neg c7] at H
     have c7b0 : decide (0 < (x6_1.length : Int)) = false := decide_eq_false c7
     have c7b1 : decide (0 < x6_1.length) = false := decide_eq_false (by omega)
     clear c7
     obtain rfl := Option.some.inj H
     obtain ⟨Ao15, co15, eo15⟩ := Kd.V_slice HO_6.out
     subst eo15
     go_wp2
     go_ret
     exact ⟨_, zr, zP HO_5.out, zQ HB.out⟩
  rw [if_neg c4] at H
  exact absurd H (by simp)
 rw [if_neg c3] at H
 exact absurd H (by simp)
end Go.Proofs.YtkiacoilecdepaaDoor.PAll
