-- Printed by a program of the session (wip/tools/pgen.py) out of the translation. Not trusted: Lean checks it.
import Derived.Test.YtfnnnopbcdiibaaDoorPAllx0
import Derived.Test.YtfnnnopbcdiibaaDoorPAllx1
import Derived.Test.YtfnnnopbcdiibaaDoorPAllx2
import Derived.Test.YtfnnnopbcdiibaaDoorPAllx4
import Derived.Test.YtfnnnopbcdiibaaDoorPAllx5
import Derived.Test.YtfnnnopbcdiibaaDoorPAllx9
import Derived.Test.YtfnnnopbcdiibaaDoorPAllx16
namespace Go.Proofs.YtfnnnopbcdiibaaDoor.PAll
open Go.RowKit Go.Proofs.YtfnnnopbcdiibaaDoor.T Go.Proofs.YtfnnnopbcdiibaaDoorW.PrintWords Go.Proofs.YtfnnnopbcdiibaaDoorW.PrintLast Go.Proofs.YtfnnnopbcdiibaaDoorW.PrintMore
attribute [local go_sem] max2_int min2_int max_two min_two max_three min_three max_four min_four   -- for this text's walks alone
set_option linter.unusedVariables false
set_option linter.unusedSimpArgs false

/-! ### spec_PowerOf: function 16 -/
mutual
def spec_PowerOf.j0 : Nat → List Int → Int → Int → Bool → Int → List Int → Option (List Int × Int)
 | 0, _, _, _, _, _, _ => none
 | k + 1, x1, x2, x8, x19, x164000, x164001 => if x19 = true then (spec_PowerOf.j1 k x1 x2 2 x164000 x164001) else (spec_PowerOf.j1 k x1 x2 x8 x164000 x164001)
def spec_PowerOf.j1 : Nat → List Int → Int → Int → Int → List Int → Option (List Int × Int)
 | 0, _, _, _, _, _ => none
 | k + 1, x1, x2, x8, x164000, x164001 => if x8 = 0 then (spec_PowerOf.j2 k x1 x2 x8 (decide ((wrap64 ((x1.length : Int) * x2)) > 24)) x164000 x164001) else (spec_PowerOf.j2 k x1 x2 x8 false x164000 x164001)
def spec_PowerOf.j2 : Nat → List Int → Int → Int → Bool → Int → List Int → Option (List Int × Int)
 | 0, _, _, _, _, _, _ => none
 | k + 1, x1, x2, x8, x28, x164000, x164001 => if x28 = true then (spec_PowerOf.j3 k x1 x2 3 x164000 x164001) else (spec_PowerOf.j3 k x1 x2 x8 x164000 x164001)
def spec_PowerOf.j3 : Nat → List Int → Int → Int → Int → List Int → Option (List Int × Int)
 | 0, _, _, _, _, _ => none
 | k + 1, x1, x2, x8, x164000, x164001 => if x8 = 0 then ((spec_l07Power.f k x1 x2).bind fun t166 => ((spec_l03Normal.f k x164000 x164001 t166).bind fun t169 => (some (t169, 0)))) else (some (([] : List Int), x8))
end
def spec_PowerOf.f (k : Nat) (a0_0 : Int) (l0_1 : List Int) (l1 : List Int) (a2 : Int) : Option (List Int × Int) := (spec_l03Code.f k a0_0 l0_1 l1 l1).bind fun t164 => (if t164 = 0 then ((spec_l01In.f a2 0 24).bind fun t165 => (spec_PowerOf.j0 k l1 a2 t164 (!t165) a0_0 l0_1)) else (spec_PowerOf.j0 k l1 a2 t164 false a0_0 l0_1))

set_option maxHeartbeats 8000000 in
set_option maxRecDepth 100000 in
theorem spec_PowerOf.calls (k : Nat) (a0_0 : Int) (A0_1 : Option Addr) (c0_1 : Nat) (l0_1 : List Int) (A1 : Option Addr) (c1 : Nat) (l1 : List Int) (a2 : Int) (r1 : List Int) (r2 : Int) (w : World) (hr0_1 : Kd.C (Kd.int .i64) w A0_1 l0_1.length l0_1) (hc0_1 : l0_1.length ≤ c0_1) (hr1 : Kd.C (Kd.int .i64) w A1 l1.length l1) (hc1 : l1.length ≤ c1) (h : spec_PowerOf.f k a0_0 l0_1 l1 a2 = some (r1, r2)) :
  Calls Tryd.prog 16 #[.agg #[.int .i64 a0_0, .slice A0_1 l0_1.length c0_1], .slice A1 l1.length c1, .int .i64 a2] w fun e w' => ∃ v0_ : Value, e = .returned (.tuple #[v0_, .int .i64 r2]) ∧ Kd.R (Kd.int .i64) 2 w' w.heap.size (fun _ => True) v0_ r1 ∧ Below w.heap.size w w' := by
 have hu28 := Tryd.underlying28
 have HR0_1 := zA hr0_1
 have HC0_1 := zA hc0_1
 clear hr0_1 hc0_1
 have HR1 := zA hr1
 have HC1 := zA hc1
 clear hr1 hc1
 have HB := zA (kW w.heap.size w)
 have H := h
 unfold spec_PowerOf.f at H
 clear h
 obtain ⟨t164, A4, H⟩ := zb H
 try dsimp only at H
 have HC5 := zA H
 clear H
 go_enter Tryd.func16, Tryd.ntmps16
 go_upto_region 2 with (first | (refine zBE 3 #[.int .i64 a0_0, .slice A0_1 l0_1.length c0_1] 28 ?_; intro gb163 hg w6 hbox hb; have BK163 := zA (hbox); have GW163 := zA (zBH hg HB.out); have GE163 := zA (zBH hg HB.out); replace HB := zA (kQ (zQ HB.out) hb); clear hb hbox hg; obtain ⟨hcz7_0, hcz7_1, hfz7_0, hfz7_1⟩ := zB3 BK163.out) | (refine zO (some 12) Tryd.func53 #[.agg #[.int .i64 a0_0, .slice A0_1 l0_1.length c0_1], .slice A1 l1.length c1, .slice A1 l1.length c1] ?_; (with_reducible refine (spec_l03Code.calls k a0_0 _ _ l0_1 _ _ l1 _ _ l1 t164 _ ?side1 ?side2 ?side3 ?side4 ?side5 ?side6 A4.out).mono ?_); (case side1 => exact zS (kO HR0_1.out HB.out)); (case side2 => exact HC0_1.out); (case side3 => exact zS (kO HR1.out HB.out)); (case side4 => exact HC1.out); (case side5 => exact zS (kO HR1.out HB.out)); (case side6 => exact HC1.out); rintro e w8 ⟨rfl, hb⟩; refine ⟨_, rfl, ?_⟩; replace BK163 := zA (zB1 BK163.out hb); replace HB := zA (kQ (zT HB.out GE163.out) hb); (try clear hb)))
 (try simp only [Act.put, zL, zM, zN])
 go_cut [19] (fun v19 wc => ∃ (kq : Nat) (x19_4 : Bool), v19 = .bool x19_4 ∧ Aside0 (spec_PowerOf.j0 kq l1 a2 t164 x19_4 a0_0 l0_1 = some (r1, r2)) ∧ Aside0 (kq ≤ k) ∧ Aside0 (wc.heap[gb163]? = some (.cells #[.int .i64 a0_0, (.slice A0_1 l0_1.length c0_1)] 28 (0, 0))) ∧ Aside0 (Below w.heap.size w wc))
 case first =>
  have H := HC5.out
  clear HC5
  by_cases c9 : t164 = 0
  ·rw [if_pos c9] at H
   obtain ⟨c9b0, c9b1⟩ := zT1 c9
   clear c9
   (first | rw [c9b0] | (simp only [i64_w, i32_w]; rw [c9b0]) | skip)
   obtain ⟨t165, A10, H⟩ := zb H
   try dsimp only at H
   have H' := zA H
   clear H
   go_wp2_with (first | (go_at_call 54; (with_reducible refine (spec_l01In.calls a2 0 24 t165 _ A10.out).mono ?_); rintro e w' ⟨rfl, ⟨nd, rfl⟩⟩))
   go_meet
   case rel => exact ⟨_, (!t165), zs, H', ⟨by first | omega | exact Nat.le_refl _⟩, ⟨zR BK163.out⟩, ⟨zT HB.out GE163.out⟩⟩
  rw [if_neg c9] at H
  obtain ⟨c9b0, c9b1⟩ := zT2 c9
  (first | rw [c9b0] | (simp only [i64_w, i32_w]; rw [c9b0]) | skip)
  have H' := zA H
  clear H
  go_wp2
  go_meet
  case rel => exact ⟨_, (false), zs, H', ⟨by first | omega | exact Nat.le_refl _⟩, ⟨zR BK163.out⟩, ⟨zT HB.out GE163.out⟩⟩
 case rest =>
  clear HC5
  try clear c1
  try clear c5
  try clear c9
  try clear hcz7_0
  try clear hcz7_1
  try clear hfz7_0
  try clear hfz7_1
  obtain ⟨kq, x19_4, rfl, HA, HJ4, BK163, HB⟩ := hcut
  cases kq with
  | zero => exact absurd HA.out (by simp [spec_PowerOf.j0])
  | succ kj4 =>
   have H := HA.out
   clear HA
   simp only [spec_PowerOf.j0] at H
   have HC11 := zA H
   clear H
   go_upto_if 19 with (fail)
   go_cut [8] (fun v8 wc => ∃ (kq : Nat) (x8_10 : Int), v8 = .int .i64 x8_10 ∧ Aside0 (spec_PowerOf.j1 kq l1 a2 x8_10 a0_0 l0_1 = some (r1, r2)) ∧ Aside0 (kq ≤ kj4) ∧ Aside0 (wc.heap[gb163]? = some (.cells #[.int .i64 a0_0, (.slice A0_1 l0_1.length c0_1)] 28 (0, 0))) ∧ Aside0 (Below w.heap.size w wc))
   case first =>
    have H := HC11.out
    clear HC11
    by_cases c12 : x19_4 = true
    ·subst c12
     rw [if_pos rfl] at H
     have H' := zA H
     clear H
     go_wp2
     go_meet
     case rel => exact ⟨_, (2), zs, H', ⟨by have := HJ4.out; first | omega | exact Nat.le_refl _⟩, ⟨zR BK163.out⟩, ⟨zT HB.out GE163.out⟩⟩
    replace c12 := Bool.eq_false_iff.mpr c12
    subst c12
    rw [if_neg (show ¬ (false = true) by decide)] at H
    have H' := zA H
    clear H
    go_wp2
    go_meet
    case rel => exact ⟨_, (t164), zs, H', ⟨by have := HJ4.out; first | omega | exact Nat.le_refl _⟩, ⟨zR BK163.out⟩, ⟨zT HB.out GE163.out⟩⟩
   case rest =>
    clear HC11
    try clear c1
    try clear c5
    try clear c9
    try clear c12
    try clear hcz7_0
    try clear hcz7_1
    try clear hfz7_0
    try clear hfz7_1
    obtain ⟨kq, x8_10, rfl, HA, HJ10, BK163, HB⟩ := hcut
    cases kq with
    | zero => exact absurd HA.out (by simp [spec_PowerOf.j1])
    | succ kj10 =>
     have H := HA.out
     clear HA
     simp only [spec_PowerOf.j1] at H
     have HC13 := zA H
     clear H
     go_upto_region 4 with (fail)
     go_cut [28] (fun v28 wc => ∃ (kq : Nat) (x28_12 : Bool), v28 = .bool x28_12 ∧ Aside0 (spec_PowerOf.j2 kq l1 a2 x8_10 x28_12 a0_0 l0_1 = some (r1, r2)) ∧ Aside0 (kq ≤ kj10) ∧ Aside0 (wc.heap[gb163]? = some (.cells #[.int .i64 a0_0, (.slice A0_1 l0_1.length c0_1)] 28 (0, 0))) ∧ Aside0 (Below w.heap.size w wc))
     case first =>
      have H := HC13.out
      clear HC13
      by_cases c14 : x8_10 = 0
      ·rw [if_pos c14] at H
       obtain ⟨c14b0, c14b1⟩ := zT1 c14
       clear c14
       (first | rw [c14b0] | (simp only [i64_w, i32_w]; rw [c14b0]) | skip)
       have H' := zA H
       clear H
       go_wp2
       go_meet
       case rel => exact ⟨_, (decide ((wrap64 ((l1.length : Int) * a2)) > 24)), zs, H', ⟨by have := HJ4.out; have := HJ10.out; first | omega | exact Nat.le_refl _⟩, ⟨zR BK163.out⟩, ⟨zT HB.out GE163.out⟩⟩
      rw [if_neg c14] at H
      obtain ⟨c14b0, c14b1⟩ := zT2 c14
      (first | rw [c14b0] | (simp only [i64_w, i32_w]; rw [c14b0]) | skip)
      have H' := zA H
      clear H
      go_wp2
      go_meet
      case rel => exact ⟨_, (false), zs, H', ⟨by have := HJ4.out; have := HJ10.out; first | omega | exact Nat.le_refl _⟩, ⟨zR BK163.out⟩, ⟨zT HB.out GE163.out⟩⟩
     case rest =>
      clear HC13
      try clear c1
      try clear c5
      try clear c9
      try clear c12
      try clear c14
      try clear hcz7_0
      try clear hcz7_1
      try clear hfz7_0
      try clear hfz7_1
      obtain ⟨kq, x28_12, rfl, HA, HJ12, BK163, HB⟩ := hcut
      cases kq with
      | zero => exact absurd HA.out (by simp [spec_PowerOf.j2])
      | succ kj12 =>
       have H := HA.out
       clear HA
       simp only [spec_PowerOf.j2] at H
       have HC15 := zA H
       clear H
       go_upto_if 28 with (fail)
       go_cut [8] (fun v8 wc => ∃ (kq : Nat) (x8_14 : Int), v8 = .int .i64 x8_14 ∧ Aside0 (spec_PowerOf.j3 kq l1 a2 x8_14 a0_0 l0_1 = some (r1, r2)) ∧ Aside0 (kq ≤ kj12) ∧ Aside0 (wc.heap[gb163]? = some (.cells #[.int .i64 a0_0, (.slice A0_1 l0_1.length c0_1)] 28 (0, 0))) ∧ Aside0 (Below w.heap.size w wc))
       case first =>
        have H := HC15.out
        clear HC15
        by_cases c16 : x28_12 = true
        ·subst c16
         rw [if_pos rfl] at H
         have H' := zA H
         clear H
         go_wp2
         go_meet
         case rel => exact ⟨_, (3), zs, H', ⟨by have := HJ4.out; have := HJ10.out; have := HJ12.out; first | omega | exact Nat.le_refl _⟩, ⟨zR BK163.out⟩, ⟨zT HB.out GE163.out⟩⟩
        replace c16 := Bool.eq_false_iff.mpr c16
        subst c16
        rw [if_neg (show ¬ (false = true) by decide)] at H
        have H' := zA H
        clear H
        go_wp2
        go_meet
        case rel => exact ⟨_, (x8_10), zs, H', ⟨by have := HJ4.out; have := HJ10.out; have := HJ12.out; first | omega | exact Nat.le_refl _⟩, ⟨zR BK163.out⟩, ⟨zT HB.out GE163.out⟩⟩
       case rest =>
        clear HC15
        try clear c1
        try clear c5
        try clear c9
        try clear c12
        try clear c14
        try clear c16
        try clear hcz7_0
        try clear hcz7_1
        try clear hfz7_0
        try clear hfz7_1
        obtain ⟨kq, x8_14, rfl, HA, HJ14, BK163, HB⟩ := hcut
        cases kq with
        | zero => exact absurd HA.out (by simp [spec_PowerOf.j3])
        | succ kj14 =>
         have H := HA.out
         clear HA
         simp only [spec_PowerOf.j3] at H
         by_cases c17 : x8_14 = 0
         ·rw [if_pos c17] at H
          obtain ⟨c17b0, c17b1⟩ := zT1 c17
          clear c17
          obtain ⟨t166, A18, H⟩ := zb H
          try dsimp only at H
          obtain ⟨t169, A19, H⟩ := zb H
          try dsimp only at H
          simp only [Option.some.injEq, Prod.mk.injEq] at H
          obtain ⟨rfl, rfl⟩ := H
          try go_wp2
          replace BK163 := zA (zK BK163.out)
          replace HB := zA (zD HB.out)
          refine start_ (n := 7) (S := fun w' => w'.cell? ⟨gb163, 0, none⟩ = some (.int .i64 a0_0) ∧ w'.cell? ⟨gb163, 1, none⟩ = some (.slice A0_1 l0_1.length c0_1)) (ds := []) #[false, false, false, false, false, false, false] (by kernel_rfl) rfl rfl ⟨(kV BK163.out 0).trans rfl, (kV BK163.out 1).trans rfl⟩ (fun hHeld => ?_)
          generalize wc.drew = w20 at BK163 HB hHeld ⊢
          refine pure_ (i := 1) (N := some 33) (v := ?_) (a' := ?_) #[false, true, false, false, false, false, false] rfl rfl (by kernel_rfl) (fun _ _ _ h => h) (Or.inl ⟨by rfl, ?_⟩) ?_ ?_
          rotate_left
          ·intro w'
           go_simp
           with_reducible rfl
          rotate_left
          ·simp only [Act.put, zL, zM, zN, i64_w, i32_w]
           rfl
          refine pure_ (i := 2) (N := some 34) (v := ?_) (a' := ?_) #[false, true, true, false, false, false, false] rfl rfl (by kernel_rfl) (fun _ _ _ h => h) (Or.inl ⟨by rfl, ?_⟩) ?_ ?_
          rotate_left
          ·intro w'
           go_simp
           with_reducible rfl
          rotate_left
          ·simp only [Act.put, zL, zM, zN, i64_w, i32_w]
           rfl
          refine take_ (i := 0) (N := some 32) (v := ?_) (a' := ?_) #[true, true, true, false, false, false, false] rfl rfl (by kernel_rfl) (fun _ _ _ h => h) (Or.inl ⟨by rfl, ?_⟩) hHeld ?_ ?_
          rotate_left
          ·rintro w' ⟨s0, s1⟩
           go_simp
           with_reducible rfl
          rotate_left
          ·simp only [Act.put, zL, zM, zN, i64_w, i32_w]
           rfl
          refine one_ (i := 3) (N := some 35) #[true, true, true, true, false, false, false] rfl rfl (by kernel_rfl) (by decide) (fun K hK => ?_)
          refine goes_ Tryd.func56 (by kernel_rfl) rfl #[.slice A1 l1.length c1, .int .i64 a2] (by rfl) rfl rfl zg ?_
          with_reducible refine (spec_l07Power.calls kj14 _ _ l1 a2 t166 _ ?side1 ?side2 A18.out).mono ?_
          (case side1 => exact zS (kO HR1.out HB.out))
          (case side2 => exact HC1.out)
          rintro e w21 ⟨v167, rfl, ho0, hb⟩
          refine ⟨_, rfl, ?_⟩
          have HO168 := zA (kI ho0 (kP (zT HB.out GE163.out)))
          replace BK163 := zA (zB1 BK163.out hb)
          replace HB := zA (kQ (zT HB.out GE163.out) hb)
          (try clear hb)
          (try clear hb2)
          (try clear hk)
          (try clear hi)
          (try clear hgw)
          (try clear ho0)
          obtain ⟨Ao22, co22, eo22⟩ := kM HO168.out
          (first | subst eo22 | (injection eo22 with f1_ f2_ f3_; have f4_ := f1_.symm; have f5_ := f3_.symm; clear f1_ f2_ f3_; subst f4_; subst f5_))
          refine hK.out _ _ ⟨(kV BK163.out 0).trans rfl, (kV BK163.out 1).trans rfl⟩ (fun hHeld => ?_)
          clear hK K
          refine norm_ (a' := ?_) ?_ ?_
          rotate_left
          ·show Act.put _ (some 35) _ = _
           simp only [Act.put, zL, zM, zN, i64_w, i32_w]
           rfl
          refine one_ (i := 4) (N := some 36) #[true, true, true, true, true, false, false] rfl rfl (by kernel_rfl) (by decide) (fun K hK => ?_)
          refine goes_ Tryd.func55 (by kernel_rfl) rfl #[.agg #[.int .i64 a0_0, .slice A0_1 l0_1.length c0_1], .slice Ao22 t166.length co22] (by rfl) rfl rfl zg ?_
          with_reducible refine (spec_l03Normal.calls kj14 a0_0 _ _ l0_1 _ _ t166 t169 _ ?side1 ?side2 ?side3 ?side4 A19.out).mono ?_
          (case side1 => exact zS (kO HR0_1.out HB.out))
          (case side2 => exact HC0_1.out)
          (case side3 => exact zS (kB HO168.out).2.2)
          (case side4 => exact (kB HO168.out).2.1)
          rintro e w23 ⟨v170, rfl, ho0, hb⟩
          refine ⟨_, rfl, ?_⟩
          have HO171 := zA (kI (kF ho0 (kH (zP HO168.out))) (kP (zT HB.out GE163.out)))
          replace HO168 := zA (kE (zP HO168.out) (kC ho0) hb)
          replace BK163 := zA (zB1 BK163.out hb)
          replace HB := zA (kQ (zT HB.out GE163.out) hb)
          (try clear hb)
          (try clear hb2)
          (try clear hk)
          (try clear hi)
          (try clear hgw)
          (try clear ho0)
          refine hK.out _ _ ⟨(kV BK163.out 0).trans rfl, (kV BK163.out 1).trans rfl⟩ (fun hHeld => ?_)
          clear hK K
          refine norm_ (a' := ?_) ?_ ?_
          rotate_left
          ·show Act.put _ (some 36) _ = _
           simp only [Act.put, zL, zM, zN, i64_w, i32_w]
           rfl
          refine pure_ (i := 5) (N := some 6) (v := ?_) (a' := ?_) #[true, true, true, true, true, true, false] rfl rfl (by kernel_rfl) (fun _ _ _ h => h) (Or.inl ⟨by rfl, ?_⟩) ?_ ?_
          rotate_left
          ·intro w'
           go_simp
           with_reducible rfl
          rotate_left
          ·simp only [Act.put, zL, zM, zN, i64_w, i32_w]
           rfl
          refine pure_ (i := 6) (N := some 7) (v := ?_) (a' := ?_) #[true, true, true, true, true, true, true] rfl rfl (by kernel_rfl) (fun _ _ _ h => h) (Or.inl ⟨by rfl, ?_⟩) ?_ ?_
          rotate_left
          ·intro w'
           go_simp
           with_reducible rfl
          rotate_left
          ·simp only [Act.put, zL, zM, zN, i64_w, i32_w]
           rfl
          refine done_ (by kernel_rfl) ?_
          try go_wp2
          go_ret2
          exact ⟨_, zr, by (with_reducible repeat (first | apply zF | apply zG | apply zH)); exact kA HO171.out (fun _ hk => trivial), zT HB.out GE163.out⟩
         rw [if_neg c17] at H
         obtain ⟨c17b0, c17b1⟩ := zT2 c17
         simp only [Option.some.injEq, Prod.mk.injEq] at H
         obtain ⟨rfl, rfl⟩ := H
         go_wp2
         go_ret2
         exact ⟨_, zr, zn, zT HB.out GE163.out⟩

/-! ### impl_PowerOf: function 19 -/
def impl_PowerOf.f (k : Nat) (a0_0 : Int) (l0_1 : List Int) (l1 : List Int) (a2 : Int) : Option (List Int × Int) := (impl_checkWords.f k a0_0 l0_1 (([l1] : List (List Int)))).bind fun t261 => (if t261 = 0 then ((impl_inRange.f a2 0 24).bind fun t262 => (if t262 = true then ((impl_Alphabet_ties.f a0_0 l0_1).bind fun t263 => ((slices_Repeat_int64_int64.f l1 a2).bind fun t266 => ((impl_ties_limited.f k t263 t266).bind fun bt269 => (some (bt269.1, bt269.2))))) else (some (([] : List Int), 2)))) else (some (([] : List Int), t261)))

set_option maxHeartbeats 8000000 in
set_option maxRecDepth 100000 in
theorem impl_PowerOf.calls (k : Nat) (a0_0 : Int) (P0_1_ : Nat → Prop) (A0_1 : Option Addr) (c0_1 : Nat) (l0_1 : List Int) (P1_ : Nat → Prop) (A1 : Option Addr) (c1 : Nat) (l1 : List Int) (a2 : Int) (r1 : List Int) (r2 : Int) (w : World) (hs0_1 : Kd.V (Kd.int .i64) 2 w w.heap.size (fun k_ => P0_1_ k_) (.slice A0_1 l0_1.length c0_1) l0_1) (hs1 : Kd.V (Kd.int .i64) 2 w w.heap.size (fun k_ => P1_ k_) (.slice A1 l1.length c1) l1) (hT : TabW w) (h : impl_PowerOf.f k a0_0 l0_1 l1 a2 = some (r1, r2)) :
  Calls Tryd.prog 19 #[.agg #[.int .i64 a0_0, .slice A0_1 l0_1.length c0_1], .slice A1 l1.length c1, .int .i64 a2] w fun e w' => ∃ v0_ : Value, e = .returned (.tuple #[v0_, .int .i64 r2]) ∧ Kd.R (Kd.int .i64) 2 w' w.heap.size (fun k_ => (w.heap.size ≤ k_)) v0_ r1 ∧ Below w.heap.size w w' := by
 have hu28 := Tryd.underlying28
 have HT := zA hT
 clear hT
 have HO0_1 := zA (show Kd.V (Kd.int .i64) 2 w w.heap.size (fun k_ => ((P0_1_ k_ ∨ P1_ k_) ∨ w.heap.size ≤ k_)) (.slice A0_1 l0_1.length c0_1) l0_1 from kN hs0_1 (fun k_ hk => .inl (.inl hk)))
 have HO1 := zA (show Kd.V (Kd.int .i64) 2 w w.heap.size (fun k_ => ((P0_1_ k_ ∨ P1_ k_) ∨ w.heap.size ≤ k_)) (.slice A1 l1.length c1) l1 from kN hs1 (fun k_ hk => .inl (.inr hk)))
 have HB := zA (kW w.heap.size w)
 have H := h
 unfold impl_PowerOf.f at H
 clear h
 obtain ⟨y258, hy258⟩ : ∃ y_ : List (List Int), y_ = (([l1] : List (List Int))) := ⟨_, rfl⟩
 replace H : ((impl_checkWords.f k a0_0 l0_1 y258).bind fun t261 => (if t261 = 0 then ((impl_inRange.f a2 0 24).bind fun t262 => (if t262 = true then ((impl_Alphabet_ties.f a0_0 l0_1).bind fun t263 => ((slices_Repeat_int64_int64.f l1 a2).bind fun t266 => ((impl_ties_limited.f k t263 t266).bind fun bt269 => (some (bt269.1, bt269.2))))) else (some (([] : List Int), 2)))) else (some (([] : List Int), t261)))) = some (r1, r2) := zy hy258 H
 have Ny258 := zA hy258
 clear hy258
 obtain ⟨t261, A4, H⟩ := zb H
 try dsimp only at H
 by_cases c5 : t261 = 0
 ·rw [if_pos c5] at H
  obtain ⟨c5b0, c5b1⟩ := zT1 c5
  clear c5
  obtain ⟨t262, A6, H⟩ := zb H
  try dsimp only at H
  by_cases c7 : t262 = true
  ·subst c7
   rw [if_pos rfl] at H
   obtain ⟨t263, A8, H⟩ := zb H
   try dsimp only at H
   obtain ⟨t266, A9, H⟩ := zb H
   try dsimp only at H
   obtain ⟨⟨t269, t270⟩, A10, H⟩ := zb H
   try dsimp only at H
   simp only [Option.some.injEq, Prod.mk.injEq] at H
   obtain ⟨rfl, rfl⟩ := H
   go_enter Tryd.func19, Tryd.ntmps19
   go_wp2_with (first | (refine zBE 3 #[.int .i64 a0_0, .slice A0_1 l0_1.length c0_1] 28 ?_; intro gb257 hg w11 hbox hb; replace HO0_1 := zA (kG (jD (zPV HO0_1.out) gb257 (Nat.le_of_eq hg.symm)) hb); replace HO1 := zA (kG (jD (zPV HO1.out) gb257 (Nat.le_of_eq hg.symm)) hb); have BK257 := zA (hbox); have GW257 := zA (zBH hg HB.out); have GE257 := zA (zBH hg HB.out); replace HB := zA (kQ (zQ HB.out) hb); clear hb hbox hg; obtain ⟨hcz12_0, hcz12_1, hfz12_0, hfz12_1⟩ := zB3 BK257.out) | ((with_reducible refine kS (N := 11) rfl ?_); refine Kd.N_lit (Kd.slice 2 (Kd.int .i64)) _ 22 ?hg (N' := 11) ?hd (xs := ([l1] : List (List Int))) (inner := [.slice A1 l1.length c1]) (ok := (fun k_ => ((P0_1_ k_ ∨ P1_ k_) ∨ w.heap.size ≤ k_) ∧ k_ ≠ gb257)) (okp := (fun k_ => ((P0_1_ k_ ∨ P1_ k_) ∨ w.heap.size ≤ k_) ∧ k_ ≠ gb257)) ?hr ?hp (fun _ hk => hk) ((show ∀ k_ : Nat, (_ : Nat) ≤ k_ → (fun k_ => ((P0_1_ k_ ∨ P1_ k_) ∨ w.heap.size ≤ k_) ∧ k_ ≠ gb257) k_ from fun k_ hk => ⟨(.inr (Nat.le_trans (kP (zT HB.out GE257.out)) hk)), jE (g := gb257) (o := .cells #[.int .i64 a0_0, .slice A0_1 l0_1.length c0_1] 28 (0, 0)) (zR BK257.out) k_ hk⟩) _ (Nat.le_refl _)) (kW _ _) (Nat.le_refl _) (by simp) ?_; (case hd => rfl); (case hg => rfl); (case hr => first | (go_simp; done) | (go_simp; rfl)); (case hp => exact (Reps.one (show Kd.FK (Kd.slice 2 (Kd.int .i64)) _ _ l1 [.slice A1 l1.length c1] from (zFK (kN (ok' := (fun k_ => ((P0_1_ k_ ∨ P1_ k_) ∨ w.heap.size ≤ k_) ∧ k_ ≠ gb257)) (HO1.out) (fun k_ hk => ⟨hk.1, hk.2⟩)))) (Reps.none _ _))); intro v259 w13 ho14 hb hg_ hnew_; clear hg_ hnew_; (first | rw [← Ny258.out] at ho14 | (simp only [Int.reduceToNat] at ho14; rw [← Ny258.out] at ho14)); replace HO0_1 := zA (kK (zPV HO0_1.out) (Kd.N_base ho14) hb); replace HO1 := zA (kK (zPV HO1.out) (Kd.N_base ho14) hb); have HO260 := zA (jN ho14 (kP (zT HB.out GE257.out))); replace BK257 := zA (zB1 BK257.out hb); replace HB := zA (kQ (zT HB.out GE257.out) hb); clear hb ho14; obtain ⟨Ao15, co15, eo15⟩ := Kd.N_slice HO260.out; subst eo15) | (refine zO (some 12) Tryd.func57 #[.agg #[.int .i64 a0_0, .slice A0_1 l0_1.length c0_1], .slice Ao15 y258.length co15] ?_; (with_reducible refine (impl_checkWords.calls k a0_0 _ _ l0_1 _ _ y258 t261 _ ?side1 ?side2 ?side3 ?side4 ?side5 A4.out).mono ?_); (case side1 => exact zS (kJ HO0_1.out).2.2); (case side2 => exact (kJ HO0_1.out).2.1); (case side3 => exact zS (Kd.N_reads' HO260.out).2.2); (case side4 => exact (Kd.N_reads' HO260.out).2.1); (case side5 => exact TabW.below HT.out (zT HB.out GE257.out)); rintro e w16 ⟨rfl, hb⟩; refine ⟨_, rfl, ?_⟩; replace HO0_1 := zA (kG (zPV HO0_1.out) hb); replace HO1 := zA (kG (zPV HO1.out) hb); replace HO260 := zA (kZ (zPN HO260.out) hb); replace BK257 := zA (zB1 BK257.out hb); replace HB := zA (kQ (zT HB.out GE257.out) hb); (try clear hb)) | (refine zO (some 17) Tryd.func58 #[.int .i64 a2, .int .i64 0, .int .i64 24] ?_; (with_reducible refine (impl_inRange.calls a2 0 24 true _ A6.out).mono ?_); rintro e w' ⟨rfl, ⟨nd, rfl⟩⟩; refine ⟨_, rfl, ?_⟩; obtain ⟨hcz17_0, hcz17_1, hfz17_0, hfz17_1⟩ := zB3 BK257.out) | (refine zO (some 20) Tryd.func59 #[.agg #[.int .i64 a0_0, .slice A0_1 l0_1.length c0_1]] ?_; (with_reducible refine (impl_Alphabet_ties.calls a0_0 (fun k_ => ((((P0_1_ k_ ∨ P1_ k_) ∨ w.heap.size ≤ k_) ∧ k_ ≠ gb257) ∧ some k_ ≠ (.slice Ao15 y258.length co15 : Value).ownBlock)) _ _ l0_1 t263 _ ?side1 A8.out).mono ?_); (case side1 => exact HO0_1.out); rintro e w18 ⟨v264, rfl, ho0, hb⟩; refine ⟨_, rfl, ?_⟩; replace HO0_1 := zA (kG (zPV HO0_1.out) hb); replace HO1 := zA (kG (zPV HO1.out) hb); have HO265 := zA (jM (kN (ok' := fun k_ => ((P0_1_ k_ ∨ P1_ k_) ∨ w.heap.size ≤ k_) ∧ some k_ ≠ (.slice Ao15 y258.length co15 : Value).ownBlock ∧ k_ ≠ gb257) ho0 (fun k_ hk_ => ⟨Or.elim hk_ (fun hs_ => hs_.1.1) (fun hn_ => (.inr (Nat.le_trans (kP (zT HB.out GE257.out)) hn_))), Or.elim hk_ (fun hs_ => hs_.2) (fun hn_ => (jF (jA (zPN HO260.out)) k_ hn_)), Or.elim hk_ (fun hs_ => hs_.1.2) (fun hn_ => (jE (g := gb257) (o := .cells #[.int .i64 a0_0, .slice A0_1 l0_1.length c0_1] 28 (0, 0)) (zR BK257.out) k_ hn_))⟩)) (kP (zT HB.out GE257.out))); replace HO260 := zA (kZ (zPN HO260.out) hb); replace BK257 := zA (zB1 BK257.out hb); replace HB := zA (kQ (zT HB.out GE257.out) hb); (try clear hb); (try clear ho0)) | (refine zO (some 23) Tryd.func61 #[.slice A1 l1.length c1, .int .i64 a2] ?_; (with_reducible refine (slices_Repeat_int64_int64.calls _ _ l1 a2 t266 _ ?side1 ?side2 A9.out).mono ?_); (case side1 => exact zS (kJ HO1.out).2.2); (case side2 => exact (kJ HO1.out).2.1); rintro e w19 ⟨v267, rfl, ho0, hb⟩; refine ⟨_, rfl, ?_⟩; replace HO0_1 := zA (kK (zPV HO0_1.out) (kC ho0) hb); replace HO1 := zA (kK (zPV HO1.out) (kC ho0) hb); replace HO260 := zA (Kd.N_elder' (zPN HO260.out) (kC ho0) hb); replace HO265 := zA (kK (zPV HO265.out) (kC ho0) hb); have HO268 := zA (kI (Kd.R_newM (M := fun k_ => (w.heap.size ≤ k_)) ho0 (kP (zT HB.out GE257.out)) (fun k_ h_ => h_)) (kP (zT HB.out GE257.out))); replace BK257 := zA (zB1 BK257.out hb); replace HB := zA (kQ (zT HB.out GE257.out) hb); (try clear hb); (try clear ho0); obtain ⟨Ao20, co20, eo20⟩ := Kd.V_slice HO265.out; subst eo20; obtain ⟨Ao21, co21, eo21⟩ := kM HO268.out; subst eo21) | (refine zO (some 24) Tryd.func60 #[.slice Ao20 t263.length co20, .slice Ao21 t266.length co21] ?_; (with_reducible refine (impl_ties_limited.calls k _ _ t263 _ _ t266 t269 t270 _ ?side1 ?side2 ?side3 ?side4 ?side5 A10.out).mono ?_); (case side1 => exact zS (kJ HO265.out).2.2); (case side2 => exact (kJ HO265.out).2.1); (case side3 => exact zS (kB HO268.out).2.2); (case side4 => exact (kB HO268.out).2.1); (case side5 => exact TabW.below HT.out (zT HB.out GE257.out)); rintro e w22 ⟨v271, rfl, ho0, hb⟩; refine ⟨_, rfl, ?_⟩; replace HO0_1 := zA (kK (zPV HO0_1.out) (kC ho0) hb); replace HO1 := zA (kK (zPV HO1.out) (kC ho0) hb); replace HO260 := zA (Kd.N_elder' (zPN HO260.out) (kC ho0) hb); replace HO265 := zA (kK (zPV HO265.out) (kC ho0) hb); have HO272 := zA (kI (kF (Kd.R_newM (M := fun k_ => (w.heap.size ≤ k_)) ho0 (kP (zT HB.out GE257.out)) (fun k_ h_ => h_)) (kH (zP HO268.out))) (kP (zT HB.out GE257.out))); replace HO268 := zA (kE (zP HO268.out) (kC ho0) hb); replace BK257 := zA (zB1 BK257.out hb); replace HB := zA (kQ (zT HB.out GE257.out) hb); (try clear hb); (try clear ho0)))
   go_ret2
   exact ⟨_, zr, by (with_reducible repeat (first | apply zF | apply zG | apply zH)); exact kA HO272.out (fun _ hk => hk.1.1), zT HB.out GE257.out⟩
  replace c7 := Bool.eq_false_iff.mpr c7
  subst c7
  rw [if_neg (show ¬ (false = true) by decide)] at H
  simp only [Option.some.injEq, Prod.mk.injEq] at H
  obtain ⟨rfl, rfl⟩ := H
  go_enter Tryd.func19, Tryd.ntmps19
  go_wp2_with (first | (refine zBE 3 #[.int .i64 a0_0, .slice A0_1 l0_1.length c0_1] 28 ?_; intro gb257 hg w23 hbox hb; replace HO0_1 := zA (kG (jD (zPV HO0_1.out) gb257 (Nat.le_of_eq hg.symm)) hb); replace HO1 := zA (kG (jD (zPV HO1.out) gb257 (Nat.le_of_eq hg.symm)) hb); have BK257 := zA (hbox); have GW257 := zA (zBH hg HB.out); have GE257 := zA (zBH hg HB.out); replace HB := zA (kQ (zQ HB.out) hb); clear hb hbox hg; obtain ⟨hcz24_0, hcz24_1, hfz24_0, hfz24_1⟩ := zB3 BK257.out) | ((with_reducible refine kS (N := 11) rfl ?_); refine Kd.N_lit (Kd.slice 2 (Kd.int .i64)) _ 22 ?hg (N' := 11) ?hd (xs := ([l1] : List (List Int))) (inner := [.slice A1 l1.length c1]) (ok := (fun k_ => ((P0_1_ k_ ∨ P1_ k_) ∨ w.heap.size ≤ k_) ∧ k_ ≠ gb257)) (okp := (fun k_ => ((P0_1_ k_ ∨ P1_ k_) ∨ w.heap.size ≤ k_) ∧ k_ ≠ gb257)) ?hr ?hp (fun _ hk => hk) ((show ∀ k_ : Nat, (_ : Nat) ≤ k_ → (fun k_ => ((P0_1_ k_ ∨ P1_ k_) ∨ w.heap.size ≤ k_) ∧ k_ ≠ gb257) k_ from fun k_ hk => ⟨(.inr (Nat.le_trans (kP (zT HB.out GE257.out)) hk)), jE (g := gb257) (o := .cells #[.int .i64 a0_0, .slice A0_1 l0_1.length c0_1] 28 (0, 0)) (zR BK257.out) k_ hk⟩) _ (Nat.le_refl _)) (kW _ _) (Nat.le_refl _) (by simp) ?_; (case hd => rfl); (case hg => rfl); (case hr => first | (go_simp; done) | (go_simp; rfl)); (case hp => exact (Reps.one (show Kd.FK (Kd.slice 2 (Kd.int .i64)) _ _ l1 [.slice A1 l1.length c1] from (zFK (kN (ok' := (fun k_ => ((P0_1_ k_ ∨ P1_ k_) ∨ w.heap.size ≤ k_) ∧ k_ ≠ gb257)) (HO1.out) (fun k_ hk => ⟨hk.1, hk.2⟩)))) (Reps.none _ _))); intro v259 w25 ho26 hb hg_ hnew_; clear hg_ hnew_; (first | rw [← Ny258.out] at ho26 | (simp only [Int.reduceToNat] at ho26; rw [← Ny258.out] at ho26)); replace HO0_1 := zA (kK (zPV HO0_1.out) (Kd.N_base ho26) hb); replace HO1 := zA (kK (zPV HO1.out) (Kd.N_base ho26) hb); have HO260 := zA (jN ho26 (kP (zT HB.out GE257.out))); replace BK257 := zA (zB1 BK257.out hb); replace HB := zA (kQ (zT HB.out GE257.out) hb); clear hb ho26; obtain ⟨Ao27, co27, eo27⟩ := Kd.N_slice HO260.out; subst eo27) | (refine zO (some 12) Tryd.func57 #[.agg #[.int .i64 a0_0, .slice A0_1 l0_1.length c0_1], .slice Ao27 y258.length co27] ?_; (with_reducible refine (impl_checkWords.calls k a0_0 _ _ l0_1 _ _ y258 t261 _ ?side1 ?side2 ?side3 ?side4 ?side5 A4.out).mono ?_); (case side1 => exact zS (kJ HO0_1.out).2.2); (case side2 => exact (kJ HO0_1.out).2.1); (case side3 => exact zS (Kd.N_reads' HO260.out).2.2); (case side4 => exact (Kd.N_reads' HO260.out).2.1); (case side5 => exact TabW.below HT.out (zT HB.out GE257.out)); rintro e w28 ⟨rfl, hb⟩; refine ⟨_, rfl, ?_⟩; replace HO0_1 := zA (kG (zPV HO0_1.out) hb); replace HO1 := zA (kG (zPV HO1.out) hb); replace HO260 := zA (kZ (zPN HO260.out) hb); replace BK257 := zA (zB1 BK257.out hb); replace HB := zA (kQ (zT HB.out GE257.out) hb); (try clear hb)) | (refine zO (some 17) Tryd.func58 #[.int .i64 a2, .int .i64 0, .int .i64 24] ?_; (with_reducible refine (impl_inRange.calls a2 0 24 false _ A6.out).mono ?_); rintro e w' ⟨rfl, ⟨nd, rfl⟩⟩; refine ⟨_, rfl, ?_⟩))
  go_ret2
  exact ⟨_, zr, zn, zT HB.out GE257.out⟩
 rw [if_neg c5] at H
 obtain ⟨c5b0, c5b1⟩ := zT2 c5
 simp only [Option.some.injEq, Prod.mk.injEq] at H
 obtain ⟨rfl, rfl⟩ := H
 go_enter Tryd.func19, Tryd.ntmps19
 go_wp2_with (first | (refine zBE 3 #[.int .i64 a0_0, .slice A0_1 l0_1.length c0_1] 28 ?_; intro gb257 hg w29 hbox hb; replace HO0_1 := zA (kG (jD (zPV HO0_1.out) gb257 (Nat.le_of_eq hg.symm)) hb); replace HO1 := zA (kG (jD (zPV HO1.out) gb257 (Nat.le_of_eq hg.symm)) hb); have BK257 := zA (hbox); have GW257 := zA (zBH hg HB.out); have GE257 := zA (zBH hg HB.out); replace HB := zA (kQ (zQ HB.out) hb); clear hb hbox hg; obtain ⟨hcz30_0, hcz30_1, hfz30_0, hfz30_1⟩ := zB3 BK257.out) | ((with_reducible refine kS (N := 11) rfl ?_); refine Kd.N_lit (Kd.slice 2 (Kd.int .i64)) _ 22 ?hg (N' := 11) ?hd (xs := ([l1] : List (List Int))) (inner := [.slice A1 l1.length c1]) (ok := (fun k_ => ((P0_1_ k_ ∨ P1_ k_) ∨ w.heap.size ≤ k_) ∧ k_ ≠ gb257)) (okp := (fun k_ => ((P0_1_ k_ ∨ P1_ k_) ∨ w.heap.size ≤ k_) ∧ k_ ≠ gb257)) ?hr ?hp (fun _ hk => hk) ((show ∀ k_ : Nat, (_ : Nat) ≤ k_ → (fun k_ => ((P0_1_ k_ ∨ P1_ k_) ∨ w.heap.size ≤ k_) ∧ k_ ≠ gb257) k_ from fun k_ hk => ⟨(.inr (Nat.le_trans (kP (zT HB.out GE257.out)) hk)), jE (g := gb257) (o := .cells #[.int .i64 a0_0, .slice A0_1 l0_1.length c0_1] 28 (0, 0)) (zR BK257.out) k_ hk⟩) _ (Nat.le_refl _)) (kW _ _) (Nat.le_refl _) (by simp) ?_; (case hd => rfl); (case hg => rfl); (case hr => first | (go_simp; done) | (go_simp; rfl)); (case hp => exact (Reps.one (show Kd.FK (Kd.slice 2 (Kd.int .i64)) _ _ l1 [.slice A1 l1.length c1] from (zFK (kN (ok' := (fun k_ => ((P0_1_ k_ ∨ P1_ k_) ∨ w.heap.size ≤ k_) ∧ k_ ≠ gb257)) (HO1.out) (fun k_ hk => ⟨hk.1, hk.2⟩)))) (Reps.none _ _))); intro v259 w31 ho32 hb hg_ hnew_; clear hg_ hnew_; (first | rw [← Ny258.out] at ho32 | (simp only [Int.reduceToNat] at ho32; rw [← Ny258.out] at ho32)); replace HO0_1 := zA (kK (zPV HO0_1.out) (Kd.N_base ho32) hb); replace HO1 := zA (kK (zPV HO1.out) (Kd.N_base ho32) hb); have HO260 := zA (jN ho32 (kP (zT HB.out GE257.out))); replace BK257 := zA (zB1 BK257.out hb); replace HB := zA (kQ (zT HB.out GE257.out) hb); clear hb ho32; obtain ⟨Ao33, co33, eo33⟩ := Kd.N_slice HO260.out; subst eo33) | (refine zO (some 12) Tryd.func57 #[.agg #[.int .i64 a0_0, .slice A0_1 l0_1.length c0_1], .slice Ao33 y258.length co33] ?_; (with_reducible refine (impl_checkWords.calls k a0_0 _ _ l0_1 _ _ y258 t261 _ ?side1 ?side2 ?side3 ?side4 ?side5 A4.out).mono ?_); (case side1 => exact zS (kJ HO0_1.out).2.2); (case side2 => exact (kJ HO0_1.out).2.1); (case side3 => exact zS (Kd.N_reads' HO260.out).2.2); (case side4 => exact (Kd.N_reads' HO260.out).2.1); (case side5 => exact TabW.below HT.out (zT HB.out GE257.out)); rintro e w34 ⟨rfl, hb⟩; refine ⟨_, rfl, ?_⟩; replace HO0_1 := zA (kG (zPV HO0_1.out) hb); replace HO1 := zA (kG (zPV HO1.out) hb); replace HO260 := zA (kZ (zPN HO260.out) hb); replace BK257 := zA (zB1 BK257.out hb); replace HB := zA (kQ (zT HB.out GE257.out) hb); (try clear hb)))
 go_ret2
 exact ⟨_, zr, zn, zT HB.out GE257.out⟩

/-! ### laws_FnExactPowerOf: function 3 -/
def laws_eqInt64S_BFnExactPowerOf.f (k : Nat) (l0 : List Int) (l1 : List Int) : Option (Bool) := laws_eqInt64S.f k l0 l1
theorem laws_eqInt64S_BFnExactPowerOf.calls (k : Nat) (A0 : Option Addr) (c0 : Nat) (l0 : List Int) (A1 : Option Addr) (c1 : Nat) (l1 : List Int) (r : Bool) (w : World) (hr0 : Kd.C (Kd.int .i64) w A0 l0.length l0) (hc0 : l0.length ≤ c0) (hr1 : Kd.C (Kd.int .i64) w A1 l1.length l1) (hc1 : l1.length ≤ c1) (h : laws_eqInt64S_BFnExactPowerOf.f k l0 l1 = some r) :
 Calls Tryd.prog 20 #[.slice A0 l0.length c0, .slice A1 l1.length c1] w fun e w' => e = .returned (.bool r) ∧ Below w.heap.size w w' := by
 refine (laws_eqInt64S.calls k A0 c0 l0 A1 c1 l1 r w hr0 hc0 hr1 hc1 h).mono ?_
 rintro e w' ⟨h1, h2⟩
 exact ⟨h1, Drawn0.below h2⟩
def laws_FnExactPowerOf.f (k : Nat) (a0_0 : Int) (l0_1 : List Int) (l1 : List Int) (a2 : Int) : Option (Bool) := if (l1.length : Int) > 1048576 then (some true) else ((laws_szAlphabet.f a0_0 l0_1 1048576).bind fun t284 => (if t284 < 0 then (some true) else ((laws_toAlphabet.f k a0_0 l0_1).bind fun bt285 => ((laws_toInt64S.f k l1).bind fun t289 => ((spec_PowerOf.f k bt285.1 bt285.2 t289 a2).bind fun bt292 => ((laws_toAlphabet.f k a0_0 l0_1).bind fun bt296 => ((laws_toInt64S.f k l1).bind fun t301 => ((impl_PowerOf.f k bt296.1 bt296.2 t301 a2).bind fun bt304 => ((laws_eqInt64S_BFnExactPowerOf.f k bt304.1 bt292.1).bind fun t308 => (if t308 = true then (if bt304.2 = bt292.2 then ((laws_toAlphabet.f k a0_0 l0_1).bind fun bt309 => ((laws_eqAlphabet.f k bt296.1 bt296.2 bt309.1 bt309.2).bind fun t313 => (if t313 = true then ((laws_toInt64S.f k l1).bind fun t314 => ((laws_eqInt64S_BFnExactPowerOf.f k t301 t314).bind fun t317 => (if t317 = true then ((laws_markAlphabet.f k bt296.1 bt296.2 1).bind fun bt318 => ((laws_markInt64S.f k t301 bt318.1).bind fun bt320 => (if bt320.1 < 0 then (none) else ((laws_eqInt64S_BFnExactPowerOf.f k bt304.1 bt292.1).bind fun t322 => (if t322 = true then ((laws_markInt64S.f k bt304.1 1).bind fun bt323 => ((laws_heldInt64S.f k bt323.2 1).bind fun t325 => (if t325 < 0 then (none) else (if t325 = bt323.1 then ((laws_toAlphabet.f k a0_0 l0_1).bind fun bt326 => ((laws_toInt64S.f k l1).bind fun t330 => ((impl_PowerOf.f k bt326.1 bt326.2 t330 a2).bind fun bt333 => ((laws_eqInt64S_BFnExactPowerOf.f k bt333.1 bt292.1).bind fun t337 => (if t337 = true then (if bt333.2 = bt292.2 then ((laws_heldInt64S.f k bt323.2 1).bind fun t338 => (if t338 < 0 then (none) else (if t338 = bt323.1 then (some true) else (none)))) else (none)) else (none)))))) else (none))))) else (none)))))) else (none)))) else (none)))) else (none)) else (none)))))))))))

set_option maxHeartbeats 8000000 in
set_option maxRecDepth 100000 in
theorem laws_FnExactPowerOf.calls (k : Nat) (a0_0 : Int) (A0_1 : Option Addr) (c0_1 : Nat) (l0_1 : List Int) (A1 : Option Addr) (c1 : Nat) (l1 : List Int) (a2 : Int) (r : Bool) (w : World) (hr0_1 : Kd.C (Kd.int .i64) w A0_1 l0_1.length l0_1) (hc0_1 : l0_1.length ≤ c0_1) (hr1 : Kd.C (Kd.int .i64) w A1 l1.length l1) (hc1 : l1.length ≤ c1) (hT : TabW w) (h : laws_FnExactPowerOf.f k a0_0 l0_1 l1 a2 = some r) :
  Calls Tryd.prog 3 #[.agg #[.int .i64 a0_0, .slice A0_1 l0_1.length c0_1], .slice A1 l1.length c1, .int .i64 a2] w fun e w' => e = .returned (.bool r) ∧ Below w.heap.size w w' := by
 have hu24 := Tryd.underlying24
 have hu28 := Tryd.underlying28
 have HT := zA hT
 clear hT
 have HR0_1 := zA hr0_1
 have HC0_1 := zA hc0_1
 clear hr0_1 hc0_1
 have HR1 := zA hr1
 have HC1 := zA hc1
 clear hr1 hc1
 have HB := zA (kW w.heap.size w)
 have H := h
 unfold laws_FnExactPowerOf.f at H
 clear h
 by_cases c4 : (l1.length : Int) > 1048576
 ·rw [if_pos c4] at H
  have c4b0 : decide (1048576 < (l1.length : Int)) = true := decide_eq_true c4
  have c4b1 : decide (1048576 < l1.length) = true := decide_eq_true (by omega)
  clear c4
  obtain rfl := Option.some.inj H
  go_enter Tryd.func3, Tryd.ntmps3
  go_wp2_with (first | (refine zBE 3 #[.int .i64 a0_0, .slice A0_1 l0_1.length c0_1] 24 ?_; intro gb283 hg w5 hbox hb; have BK283 := zA (hbox); have GW283 := zA (zBH hg HB.out); have GE283 := zA (zBH hg HB.out); replace HB := zA (kQ (zQ HB.out) hb); clear hb hbox hg))
  go_ret
  exact ⟨zr, zT HB.out GE283.out⟩
 rw [if_neg c4] at H
 have c4b0 : decide (1048576 < (l1.length : Int)) = false := decide_eq_false c4
 have c4b1 : decide (1048576 < l1.length) = false := decide_eq_false (by omega)
 clear c4
 obtain ⟨t284, A6, H⟩ := zb H
 try dsimp only at H
 by_cases c7 : t284 < 0
 ·rw [if_pos c7] at H
  have c7b0 : decide (t284 < 0) = true := decide_eq_true c7
  clear c7
  obtain rfl := Option.some.inj H
  go_enter Tryd.func3, Tryd.ntmps3
  go_wp2_with (first | (refine zBE 3 #[.int .i64 a0_0, .slice A0_1 l0_1.length c0_1] 24 ?_; intro gb283 hg w8 hbox hb; have BK283 := zA (hbox); have GW283 := zA (zBH hg HB.out); have GE283 := zA (zBH hg HB.out); replace HB := zA (kQ (zQ HB.out) hb); clear hb hbox hg; obtain ⟨hcz9_0, hcz9_1, hfz9_0, hfz9_1⟩ := zB3 BK283.out) | (refine zO (some 24) Tryd.func15 #[.agg #[.int .i64 a0_0, .slice A0_1 l0_1.length c0_1], .int .i64 1048576] ?_; (with_reducible refine (laws_szAlphabet.calls a0_0 _ _ l0_1 1048576 t284 _ ?side1 ?side2 A6.out).mono ?_); (case side1 => exact zS (kO HR0_1.out HB.out)); (case side2 => exact HC0_1.out); rintro e w10 ⟨rfl, hb⟩; refine ⟨_, rfl, ?_⟩; replace BK283 := zA (zB1 BK283.out hb); replace HB := zA (kQ (zT HB.out GE283.out) hb); (try clear hb)))
  go_ret
  exact ⟨zr, zT HB.out GE283.out⟩
 rw [if_neg c7] at H
 have c7b0 : decide (t284 < 0) = false := decide_eq_false c7
 clear c7
 obtain ⟨⟨t285, t286⟩, A11, H⟩ := zb H
 try dsimp only at H
 obtain ⟨t289, A12, H⟩ := zb H
 try dsimp only at H
 obtain ⟨⟨t292, t295⟩, A13, H⟩ := zb H
 try dsimp only at H
 obtain ⟨⟨t296, t297⟩, A14, H⟩ := zb H
 try dsimp only at H
 obtain ⟨t301, A15, H⟩ := zb H
 try dsimp only at H
 obtain ⟨⟨t304, t307⟩, A16, H⟩ := zb H
 try dsimp only at H
 obtain ⟨t308, A17, H⟩ := zb H
 try dsimp only at H
 by_cases c18 : t308 = true
 ·subst c18
  rw [if_pos rfl] at H
  by_cases c19 : t307 = t295
  ·rw [if_pos c19] at H
   obtain ⟨c19b0, c19b1⟩ := zT1 c19
   clear c19
   obtain ⟨⟨t309, t310⟩, A20, H⟩ := zb H
   try dsimp only at H
   obtain ⟨t313, A21, H⟩ := zb H
   try dsimp only at H
   by_cases c22 : t313 = true
   ·subst c22
    rw [if_pos rfl] at H
    obtain ⟨t314, A23, H⟩ := zb H
    try dsimp only at H
    obtain ⟨t317, A24, H⟩ := zb H
    try dsimp only at H
    by_cases c25 : t317 = true
    ·subst c25
     rw [if_pos rfl] at H
     obtain ⟨⟨t318, t319⟩, A26, H⟩ := zb H
     try dsimp only at H
     obtain ⟨⟨t320, t321⟩, A27, H⟩ := zb H
     try dsimp only at H
     by_cases c28 : t320 < 0
     ·rw [if_pos c28] at H
      exact absurd H (by simp)
     rw [if_neg c28] at H
     have c28b0 : decide (t320 < 0) = false := decide_eq_false c28
     clear c28
     obtain ⟨t322, A29, H⟩ := zb H
     try dsimp only at H
     by_cases c30 : t322 = true
     ·subst c30
      rw [if_pos rfl] at H
      obtain ⟨⟨t323, t324⟩, A31, H⟩ := zb H
      try dsimp only at H
      obtain ⟨t325, A32, H⟩ := zb H
      try dsimp only at H
      by_cases c33 : t325 < 0
      ·rw [if_pos c33] at H
       exact absurd H (by simp)
      rw [if_neg c33] at H
      have c33b0 : decide (t325 < 0) = false := decide_eq_false c33
      clear c33
      by_cases c34 : t325 = t323
      ·rw [if_pos c34] at H
       obtain ⟨c34b0, c34b1⟩ := zT1 c34
       clear c34
       obtain ⟨⟨t326, t327⟩, A35, H⟩ := zb H
       try dsimp only at H
       obtain ⟨t330, A36, H⟩ := zb H
       try dsimp only at H
       obtain ⟨⟨t333, t336⟩, A37, H⟩ := zb H
       try dsimp only at H
       obtain ⟨t337, A38, H⟩ := zb H
       try dsimp only at H
       by_cases c39 : t337 = true
       ·subst c39
        rw [if_pos rfl] at H
        by_cases c40 : t336 = t295
        ·rw [if_pos c40] at H
         obtain ⟨c40b0, c40b1⟩ := zT1 c40
         clear c40
         obtain ⟨t338, A41, H⟩ := zb H
         try dsimp only at H
         by_cases c42 : t338 < 0
         ·rw [if_pos c42] at H
          exact absurd H (by simp)
         rw [if_neg c42] at H
         have c42b0 : decide (t338 < 0) = false := decide_eq_false c42
         clear c42
         by_cases c43 : t338 = t323
         ·rw [if_pos c43] at H
          obtain ⟨c43b0, c43b1⟩ := zT1 c43
          clear c43
          obtain rfl := Option.some.inj H
          go_enter Tryd.func3, Tryd.ntmps3
          try go_wp2_with (first | (refine zBE 3 #[.int .i64 a0_0, .slice A0_1 l0_1.length c0_1] 24 ?_; intro gb283 hg w44 hbox hb; have BK283 := zA (hbox); have GW283 := zA (zBH hg HB.out); have GE283 := zA (zBH hg HB.out); replace HB := zA (kQ (zQ HB.out) hb); clear hb hbox hg; obtain ⟨hcz45_0, hcz45_1, hfz45_0, hfz45_1⟩ := zB3 BK283.out) | (refine zO (some 24) Tryd.func15 #[.agg #[.int .i64 a0_0, .slice A0_1 l0_1.length c0_1], .int .i64 1048576] ?_; (with_reducible refine (laws_szAlphabet.calls a0_0 _ _ l0_1 1048576 t284 _ ?side1 ?side2 A6.out).mono ?_); (case side1 => exact zS (kO HR0_1.out HB.out)); (case side2 => exact HC0_1.out); rintro e w46 ⟨rfl, hb⟩; refine ⟨_, rfl, ?_⟩; replace BK283 := zA (zB1 BK283.out hb); replace HB := zA (kQ (zT HB.out GE283.out) hb); (try clear hb); obtain ⟨hcz47_0, hcz47_1, hfz47_0, hfz47_1⟩ := zB3 BK283.out) | (refine zO (some 29) Tryd.func17 #[.agg #[.int .i64 a0_0, .slice A0_1 l0_1.length c0_1]] ?_; (with_reducible refine (laws_toAlphabet.calls k a0_0 _ _ l0_1 t285 t286 _ ?side1 ?side2 A11.out).mono ?_); (case side1 => exact zS (kO HR0_1.out HB.out)); (case side2 => exact HC0_1.out); rintro e w48 ⟨v287, rfl, ho0, hb⟩; refine ⟨_, rfl, ?_⟩; have HO288 := zA (kI ho0 (kP (zT HB.out GE283.out))); replace BK283 := zA (zB1 BK283.out hb); replace HB := zA (kQ (zT HB.out GE283.out) hb); (try clear hb); (try clear ho0)) | (refine zO (some 31) Tryd.func18 #[.slice A1 l1.length c1] ?_; (with_reducible refine (laws_toInt64S.calls k _ _ l1 t289 _ ?side1 ?side2 A12.out).mono ?_); (case side1 => exact zS (kO HR1.out HB.out)); (case side2 => exact HC1.out); rintro e w49 ⟨v290, rfl, ho0, hb⟩; refine ⟨_, rfl, ?_⟩; have HO291 := zA (kI (kF ho0 (kH (zP HO288.out))) (kP (zT HB.out GE283.out))); replace HO288 := zA (kE (zP HO288.out) (kC ho0) hb); replace BK283 := zA (zB1 BK283.out hb); replace HB := zA (kQ (zT HB.out GE283.out) hb); (try clear hb); (try clear ho0); obtain ⟨Ao50, co50, eo50⟩ := kM HO288.out; subst eo50; obtain ⟨Ao51, co51, eo51⟩ := kM HO291.out; subst eo51) | (refine zO (some 33) Tryd.func16 #[.agg #[.int .i64 t285, .slice Ao50 t286.length co50], .slice Ao51 t289.length co51, .int .i64 a2] ?_; (with_reducible refine (spec_PowerOf.calls k t285 _ _ t286 _ _ t289 a2 t292 t295 _ ?side1 ?side2 ?side3 ?side4 A13.out).mono ?_); (case side1 => exact zS (kB HO288.out).2.2); (case side2 => exact (kB HO288.out).2.1); (case side3 => exact zS (kB HO291.out).2.2); (case side4 => exact (kB HO291.out).2.1); rintro e w52 ⟨v293, rfl, ho0, hb⟩; refine ⟨_, rfl, ?_⟩; have HO294 := zA (kI (kF (kF ho0 (kH (zP HO288.out))) (kH (zP HO291.out))) (kP (zT HB.out GE283.out))); replace HO288 := zA (kE (zP HO288.out) (kC ho0) hb); replace HO291 := zA (kE (zP HO291.out) (kC ho0) hb); replace BK283 := zA (zB1 BK283.out hb); replace HB := zA (kQ (zT HB.out GE283.out) hb); (try clear hb); (try clear ho0); obtain ⟨hcz53_0, hcz53_1, hfz53_0, hfz53_1⟩ := zB3 BK283.out) | (refine zO (some 37) Tryd.func17 #[.agg #[.int .i64 a0_0, .slice A0_1 l0_1.length c0_1]] ?_; (with_reducible refine (laws_toAlphabet.calls k a0_0 _ _ l0_1 t296 t297 _ ?side1 ?side2 A14.out).mono ?_); (case side1 => exact zS (kO HR0_1.out HB.out)); (case side2 => exact HC0_1.out); rintro e w54 ⟨v298, rfl, ho0, hb⟩; refine ⟨_, rfl, ?_⟩; have HO299 := zA (kI (kF (kF (kF ho0 (kH (zP HO288.out))) (kH (zP HO291.out))) (kH (zP HO294.out))) (kP (zT HB.out GE283.out))); replace HO288 := zA (kE (zP HO288.out) (kC ho0) hb); replace HO291 := zA (kE (zP HO291.out) (kC ho0) hb); replace HO294 := zA (kE (zP HO294.out) (kC ho0) hb); replace BK283 := zA (zB1 BK283.out hb); replace HB := zA (kQ (zT HB.out GE283.out) hb); (try clear hb); (try clear ho0)) | (refine zBE 10 #[.int .i64 0, .slice none 0 0] 28 ?_; intro gb300 hg w55 hbox hb; replace HO288 := zA (kL (zP HO288.out) hb); replace HO291 := zA (kL (zP HO291.out) hb); replace HO294 := zA (kL (zP HO294.out) hb); replace HO299 := zA (kL (zP HO299.out) hb); have BK300 := zA (hbox); have GW300 := zA (zB6 hg (kP (zT HB.out GE283.out)) : w.heap.size ≤ gb300); have GE300 := zA (zB6 hg (kP (zT HB.out GE283.out)) : w.heap.size ≤ gb300); replace HB := zA (kQ (zT HB.out GE283.out) hb); have NB283_300 := zA (zB4 hg BK283.out : gb283 ≠ gb300); have NB300_283 := zA (zB5 hg BK283.out : gb300 ≠ gb283); replace BK283 := zA (zB1 BK283.out hb); clear hb hbox hg; have hnb56 := NB300_283.out; have hnc56 := NB283_300.out; obtain ⟨hcz57_0, hcz57_1, hfz57_0, hfz57_1⟩ := zB3 BK300.out; obtain ⟨Ao58, co58, eo58⟩ := kM HO299.out; subst eo58) | (refine zO (some 39) Tryd.func18 #[.slice A1 l1.length c1] ?_; (with_reducible refine (laws_toInt64S.calls k _ _ l1 t301 _ ?side1 ?side2 A15.out).mono ?_); (case side1 => exact kO HR1.out (zV HB.out GE283.out GE300.out)); (case side2 => exact HC1.out); rintro e w59 ⟨v302, rfl, ho0, hb⟩; refine ⟨_, rfl, ?_⟩; have HO303 := zA (kI (kF (kF (kF (kF ho0 (kH (zP (zFG HO288.out BK300.out (.int .i64 t296) (.slice Ao58 t297.length co58))))) (kH (zP (zFG HO291.out BK300.out (.int .i64 t296) (.slice Ao58 t297.length co58))))) (kH (zP (zFG HO294.out BK300.out (.int .i64 t296) (.slice Ao58 t297.length co58))))) (kH (zP (zFG HO299.out BK300.out (.int .i64 t296) (.slice Ao58 t297.length co58))))) (kP (zV HB.out GE283.out GE300.out))); replace HO288 := zA (kE (zP (zFG HO288.out BK300.out (.int .i64 t296) (.slice Ao58 t297.length co58))) (kC ho0) hb); replace HO291 := zA (kE (zP (zFG HO291.out BK300.out (.int .i64 t296) (.slice Ao58 t297.length co58))) (kC ho0) hb); replace HO294 := zA (kE (zP (zFG HO294.out BK300.out (.int .i64 t296) (.slice Ao58 t297.length co58))) (kC ho0) hb); replace HO299 := zA (kE (zP (zFG HO299.out BK300.out (.int .i64 t296) (.slice Ao58 t297.length co58))) (kC ho0) hb); replace BK283 := zA (blk_below (g := gb283) (o := .cells #[.int .i64 a0_0, .slice A0_1 l0_1.length c0_1] 24 (0, 0)) (zBG BK283.out NB283_300.out NB283_300.out) hb); replace BK300 := zA (blk_below (g := gb300) (o := .cells #[.int .i64 t296, .slice Ao58 t297.length co58] 28 (0, 0)) (zRP BK300.out) hb); replace HB := zA (kQ (zV HB.out GE283.out GE300.out) hb); (try clear hb); (try clear ho0); obtain ⟨hcz60_0, hcz60_1, hfz60_0, hfz60_1⟩ := zB3 BK300.out; obtain ⟨Ao61, co61, eo61⟩ := kM HO303.out; subst eo61) | (refine zO (some 44) Tryd.func19 #[.agg #[.int .i64 t296, .slice Ao58 t297.length co58], .slice Ao61 t301.length co61, .int .i64 a2] ?_; (with_reducible refine (impl_PowerOf.calls k t296 (fun k_ => some k_ = (.slice Ao58 t297.length co58 : Value).ownBlock) _ _ t297 (fun k_ => some k_ = (.slice Ao61 t301.length co61 : Value).ownBlock) _ _ t301 a2 t304 t307 _ ?side1 ?side2 ?side3 A16.out).mono ?_); (case side1 => exact jL (jK rfl (kD (kD (HO299.out) BK283.out (by decide)) BK300.out (by decide)))); (case side2 => exact jL (jK rfl (kD (kD (HO303.out) BK283.out (by decide)) BK300.out (by decide)))); (case side3 => exact TabW.below HT.out (zV HB.out GE283.out GE300.out)); rintro e w62 ⟨v305, rfl, ho0, hb⟩; refine ⟨_, rfl, ?_⟩; have HO306 := zA (kI (kF (kF (kF (kF (kF (kA (ok' := fun k_ => True) ho0 (fun _ hk_ => trivial)) (kH (zP HO288.out))) (kH (zP HO291.out))) (kH (zP HO294.out))) (kH (zP HO299.out))) (kH (zP HO303.out))) (kP (zV HB.out GE283.out GE300.out))); replace HO288 := zA (kE (zP HO288.out) (kC ho0) hb); replace HO291 := zA (kE (zP HO291.out) (kC ho0) hb); replace HO294 := zA (kE (zP HO294.out) (kC ho0) hb); replace HO299 := zA (kE (zP HO299.out) (kC ho0) hb); replace HO303 := zA (kE (zP HO303.out) (kC ho0) hb); replace BK283 := zA (zB1 BK283.out hb); replace BK300 := zA (zB1 BK300.out hb); replace HB := zA (kQ (zV HB.out GE283.out GE300.out) hb); (try clear hb); (try clear ho0); obtain ⟨Ao63, co63, eo63⟩ := kM HO306.out; subst eo63; obtain ⟨Ao64, co64, eo64⟩ := kM HO294.out; subst eo64) | (refine zO (some 49) Tryd.func20 #[.slice Ao63 t304.length co63, .slice Ao64 t292.length co64] ?_; (with_reducible refine (laws_eqInt64S_BFnExactPowerOf.calls k _ _ t304 _ _ t292 true _ ?side1 ?side2 ?side3 ?side4 A17.out).mono ?_); (case side1 => exact zS (kB HO306.out).2.2); (case side2 => exact (kB HO306.out).2.1); (case side3 => exact zS (kB HO294.out).2.2); (case side4 => exact (kB HO294.out).2.1); rintro e w65 ⟨rfl, hb⟩; refine ⟨_, rfl, ?_⟩; replace HO288 := zA (kL (zP HO288.out) hb); replace HO291 := zA (kL (zP HO291.out) hb); replace HO294 := zA (kL (zP HO294.out) hb); replace HO299 := zA (kL (zP HO299.out) hb); replace HO303 := zA (kL (zP HO303.out) hb); replace HO306 := zA (kL (zP HO306.out) hb); replace BK283 := zA (zB1 BK283.out hb); replace BK300 := zA (zB1 BK300.out hb); replace HB := zA (kQ (zV HB.out GE283.out GE300.out) hb); (try clear hb)))
          replace HO288 := zA (zH HO288.out)
          replace HO291 := zA (zH HO291.out)
          replace HO294 := zA (zH HO294.out)
          replace HO299 := zA (zH HO299.out)
          replace HO303 := zA (zH HO303.out)
          replace HO306 := zA (zH HO306.out)
          replace BK283 := zA (zK BK283.out)
          replace BK300 := zA (zK BK300.out)
          replace HB := zA (zD HB.out)
          refine start_ (n := 5) (S := fun w' => w'.cell? ⟨gb300, 0, none⟩ = some (.int .i64 t296) ∧ w'.cell? ⟨gb300, 1, none⟩ = some (.slice Ao58 t297.length co58) ∧ w'.cell? ⟨gb283, 0, none⟩ = some (.int .i64 a0_0) ∧ w'.cell? ⟨gb283, 1, none⟩ = some (.slice A0_1 l0_1.length c0_1)) (ds := []) #[false, false, false, false, false] (by kernel_rfl) rfl rfl ⟨(kV BK300.out 0).trans rfl, (kV BK300.out 1).trans rfl, (kV BK283.out 0).trans rfl, (kV BK283.out 1).trans rfl⟩ (fun hHeld => ?_)
          generalize w65.drew = w66 at HO288 HO291 HO294 HO299 HO303 HO306 BK283 BK300 HB hHeld ⊢
          refine take_ (i := 0) (N := some 56) (v := ?_) (a' := ?_) #[true, false, false, false, false] rfl rfl (by kernel_rfl) (fun _ _ _ h => h) (Or.inl ⟨by rfl, ?_⟩) hHeld ?_ ?_
          rotate_left
          ·rintro w' ⟨s0, s1, s2, s3⟩
           go_simp
           with_reducible rfl
          rotate_left
          ·simp only [Act.put, zL, zM, zN, i64_w, i32_w]
           rfl
          refine take_ (i := 1) (N := some 57) (v := ?_) (a' := ?_) #[true, true, false, false, false] rfl rfl (by kernel_rfl) (fun _ _ _ h => h) (Or.inl ⟨by rfl, ?_⟩) hHeld ?_ ?_
          rotate_left
          ·rintro w' ⟨s0, s1, s2, s3⟩
           go_simp
           with_reducible rfl
          rotate_left
          ·simp only [Act.put, zL, zM, zN, i64_w, i32_w]
           rfl
          refine one_ (i := 2) (N := some 58) #[true, true, true, false, false] rfl rfl (by kernel_rfl) (by decide) (fun K hK => ?_)
          refine goes_ Tryd.func17 (by kernel_rfl) rfl #[.agg #[.int .i64 a0_0, .slice A0_1 l0_1.length c0_1]] (by rfl) rfl rfl zg ?_
          with_reducible refine (laws_toAlphabet.calls k a0_0 _ _ l0_1 t309 t310 _ ?side1 ?side2 A20.out).mono ?_
          (case side1 => exact zS (kO HR0_1.out HB.out))
          (case side2 => exact HC0_1.out)
          rintro e w67 ⟨v311, rfl, ho0, hb⟩
          refine ⟨_, rfl, ?_⟩
          have HO312 := zA (kI (kF (kF (kF (kF (kF (kF ho0 (kH (zP HO288.out))) (kH (zP HO291.out))) (kH (zP HO294.out))) (kH (zP HO299.out))) (kH (zP HO303.out))) (kH (zP HO306.out))) (kP (zV HB.out GE283.out GE300.out)))
          replace HO288 := zA (kE (zP HO288.out) (kC ho0) hb)
          replace HO291 := zA (kE (zP HO291.out) (kC ho0) hb)
          replace HO294 := zA (kE (zP HO294.out) (kC ho0) hb)
          replace HO299 := zA (kE (zP HO299.out) (kC ho0) hb)
          replace HO303 := zA (kE (zP HO303.out) (kC ho0) hb)
          replace HO306 := zA (kE (zP HO306.out) (kC ho0) hb)
          replace BK283 := zA (zB1 BK283.out hb)
          replace BK300 := zA (zB1 BK300.out hb)
          replace HB := zA (kQ (zV HB.out GE283.out GE300.out) hb)
          (try clear hb)
          (try clear hb2)
          (try clear hk)
          (try clear hi)
          (try clear hgw)
          (try clear ho0)
          obtain ⟨Ao68, co68, eo68⟩ := kM HO312.out
          (first | subst eo68 | (injection eo68 with f1_ f2_ f3_; have f4_ := f1_.symm; have f5_ := f3_.symm; clear f1_ f2_ f3_; subst f4_; subst f5_))
          refine hK.out _ _ ⟨(kV BK300.out 0).trans rfl, (kV BK300.out 1).trans rfl, (kV BK283.out 0).trans rfl, (kV BK283.out 1).trans rfl⟩ (fun hHeld => ?_)
          clear hK K
          refine norm_ (a' := ?_) ?_ ?_
          rotate_left
          ·show Act.put _ (some 58) _ = _
           simp only [Act.put, zL, zM, zN, i64_w, i32_w]
           rfl
          refine one_ (i := 3) (N := some 59) #[true, true, true, true, false] rfl rfl (by kernel_rfl) (by decide) (fun K hK => ?_)
          refine goes_ Tryd.func21 (by kernel_rfl) rfl #[.agg #[.int .i64 t296, .slice Ao58 t297.length co58], .agg #[.int .i64 t309, .slice Ao68 t310.length co68]] (by rfl) rfl rfl zg ?_
          with_reducible refine (laws_eqAlphabet.calls k t296 _ _ t297 t309 _ _ t310 true _ ?side1 ?side2 ?side3 ?side4 A21.out).mono ?_
          (case side1 => exact zS (kB HO299.out).2.2)
          (case side2 => exact (kB HO299.out).2.1)
          (case side3 => exact zS (kB HO312.out).2.2)
          (case side4 => exact (kB HO312.out).2.1)
          rintro e w69 ⟨rfl, hb⟩
          refine ⟨_, rfl, ?_⟩
          replace HO288 := zA (kL (zP HO288.out) hb)
          replace HO291 := zA (kL (zP HO291.out) hb)
          replace HO294 := zA (kL (zP HO294.out) hb)
          replace HO299 := zA (kL (zP HO299.out) hb)
          replace HO303 := zA (kL (zP HO303.out) hb)
          replace HO306 := zA (kL (zP HO306.out) hb)
          replace HO312 := zA (kL (zP HO312.out) hb)
          replace BK283 := zA (zB1 BK283.out hb)
          replace BK300 := zA (zB1 BK300.out hb)
          replace HB := zA (kQ (zV HB.out GE283.out GE300.out) hb)
          (try clear hb)
          (try clear hb2)
          (try clear hk)
          (try clear hi)
          (try clear hgw)
          refine hK.out _ _ ⟨(kV BK300.out 0).trans rfl, (kV BK300.out 1).trans rfl, (kV BK283.out 0).trans rfl, (kV BK283.out 1).trans rfl⟩ (fun hHeld => ?_)
          clear hK K
          refine norm_ (a' := ?_) ?_ ?_
          rotate_left
          ·show Act.put _ (some 59) _ = _
           simp only [Act.put, zL, zM, zN, i64_w, i32_w]
           rfl
          refine pure_ (i := 4) (N := some 60) (v := ?_) (a' := ?_) #[true, true, true, true, true] rfl rfl (by kernel_rfl) (fun _ _ _ h => h) (Or.inl ⟨by rfl, ?_⟩) ?_ ?_
          rotate_left
          ·intro w'
           go_simp
           with_reducible rfl
          rotate_left
          ·simp only [Act.put, zL, zM, zN, i64_w, i32_w]
           rfl
          refine done_ (by kernel_rfl) ?_
          try go_wp2_with (first | (refine zO (some 63) Tryd.func18 #[.slice A1 l1.length c1] ?_; (with_reducible refine (laws_toInt64S.calls k _ _ l1 t314 _ ?side1 ?side2 A23.out).mono ?_); (case side1 => exact zS (kO HR1.out HB.out)); (case side2 => exact HC1.out); rintro e w70 ⟨v315, rfl, ho0, hb⟩; refine ⟨_, rfl, ?_⟩; have HO316 := zA (kI (kF (kF (kF (kF (kF (kF (kF ho0 (kH (zP HO288.out))) (kH (zP HO291.out))) (kH (zP HO294.out))) (kH (zP HO299.out))) (kH (zP HO303.out))) (kH (zP HO306.out))) (kH (zP HO312.out))) (kP (zV HB.out GE283.out GE300.out))); replace HO288 := zA (kE (zP HO288.out) (kC ho0) hb); replace HO291 := zA (kE (zP HO291.out) (kC ho0) hb); replace HO294 := zA (kE (zP HO294.out) (kC ho0) hb); replace HO299 := zA (kE (zP HO299.out) (kC ho0) hb); replace HO303 := zA (kE (zP HO303.out) (kC ho0) hb); replace HO306 := zA (kE (zP HO306.out) (kC ho0) hb); replace HO312 := zA (kE (zP HO312.out) (kC ho0) hb); replace BK283 := zA (zB1 BK283.out hb); replace BK300 := zA (zB1 BK300.out hb); replace HB := zA (kQ (zV HB.out GE283.out GE300.out) hb); (try clear hb); (try clear ho0); obtain ⟨Ao71, co71, eo71⟩ := kM HO316.out; subst eo71) | (refine zO (some 64) Tryd.func20 #[.slice Ao61 t301.length co61, .slice Ao71 t314.length co71] ?_; (with_reducible refine (laws_eqInt64S_BFnExactPowerOf.calls k _ _ t301 _ _ t314 true _ ?side1 ?side2 ?side3 ?side4 A24.out).mono ?_); (case side1 => exact zS (kB HO303.out).2.2); (case side2 => exact (kB HO303.out).2.1); (case side3 => exact zS (kB HO316.out).2.2); (case side4 => exact (kB HO316.out).2.1); rintro e w72 ⟨rfl, hb⟩; refine ⟨_, rfl, ?_⟩; replace HO288 := zA (kL (zP HO288.out) hb); replace HO291 := zA (kL (zP HO291.out) hb); replace HO294 := zA (kL (zP HO294.out) hb); replace HO299 := zA (kL (zP HO299.out) hb); replace HO303 := zA (kL (zP HO303.out) hb); replace HO306 := zA (kL (zP HO306.out) hb); replace HO312 := zA (kL (zP HO312.out) hb); replace HO316 := zA (kL (zP HO316.out) hb); replace BK283 := zA (zB1 BK283.out hb); replace BK300 := zA (zB1 BK300.out hb); replace HB := zA (kQ (zV HB.out GE283.out GE300.out) hb); (try clear hb); obtain ⟨hcz73_0, hcz73_1, hfz73_0, hfz73_1⟩ := zB3 BK300.out) | (refine zO (some 68) Tryd.func22 #[.agg #[.int .i64 t296, .slice Ao58 t297.length co58], .int .i64 1] ?_; (with_reducible refine (laws_markAlphabet.calls k t296 (fun k_ => some k_ = (.slice Ao58 t297.length co58 : Value).ownBlock) (.slice Ao58 t297.length co58) t297 1 t318 t319 w _ ?side1 ?side2 A26.out).mono ?_); (case side1 => exact zV HB.out GE283.out GE300.out); (case side2 => exact jK rfl HO299.out); rintro e w74 ⟨rfl, hy0, hb, hkp⟩; refine ⟨_, rfl, ?_⟩; replace BK283 := zA (blk_kept (zR BK283.out) hkp (fun hs_ => (fun e_ => (Kd.R_ne HO299.out BK283.out (by decide)) e_) hs_)); replace HO288 := zA (kA (ok' := fun k_ => some k_ ≠ (.slice Ao51 t289.length co51 : Value).ownBlock ∧ some k_ ≠ (.slice Ao64 t292.length co64 : Value).ownBlock ∧ some k_ ≠ (.slice Ao58 t297.length co58 : Value).ownBlock ∧ some k_ ≠ (.slice Ao61 t301.length co61 : Value).ownBlock ∧ some k_ ≠ (.slice Ao63 t304.length co63 : Value).ownBlock ∧ some k_ ≠ (.slice Ao68 t310.length co68 : Value).ownBlock ∧ some k_ ≠ (.slice Ao71 t314.length co71 : Value).ownBlock) (Kd.R_keptB (HO288.out) hkp (fun k_ hk_ hs_ => (hk_.1.1.1.1.2) hs_)) (fun k_ hk_ => ⟨hk_.1.1.1.1.1.1.1.2, hk_.1.1.1.1.1.1.2, hk_.1.1.1.1.1.2, hk_.1.1.1.1.2, hk_.1.1.1.2, hk_.1.1.2, hk_.1.2⟩)); replace HO291 := zA (kA (ok' := fun k_ => some k_ ≠ (.slice Ao50 t286.length co50 : Value).ownBlock ∧ some k_ ≠ (.slice Ao64 t292.length co64 : Value).ownBlock ∧ some k_ ≠ (.slice Ao58 t297.length co58 : Value).ownBlock ∧ some k_ ≠ (.slice Ao61 t301.length co61 : Value).ownBlock ∧ some k_ ≠ (.slice Ao63 t304.length co63 : Value).ownBlock ∧ some k_ ≠ (.slice Ao68 t310.length co68 : Value).ownBlock ∧ some k_ ≠ (.slice Ao71 t314.length co71 : Value).ownBlock) (Kd.R_keptB (HO291.out) hkp (fun k_ hk_ hs_ => (hk_.1.1.1.1.2) hs_)) (fun k_ hk_ => ⟨hk_.1.1.1.1.1.1.1.2, hk_.1.1.1.1.1.1.2, hk_.1.1.1.1.1.2, hk_.1.1.1.1.2, hk_.1.1.1.2, hk_.1.1.2, hk_.1.2⟩)); replace HO294 := zA (kA (ok' := fun k_ => some k_ ≠ (.slice Ao50 t286.length co50 : Value).ownBlock ∧ some k_ ≠ (.slice Ao51 t289.length co51 : Value).ownBlock ∧ some k_ ≠ (.slice Ao58 t297.length co58 : Value).ownBlock ∧ some k_ ≠ (.slice Ao61 t301.length co61 : Value).ownBlock ∧ some k_ ≠ (.slice Ao63 t304.length co63 : Value).ownBlock ∧ some k_ ≠ (.slice Ao68 t310.length co68 : Value).ownBlock ∧ some k_ ≠ (.slice Ao71 t314.length co71 : Value).ownBlock) (Kd.R_keptB (HO294.out) hkp (fun k_ hk_ hs_ => (hk_.1.1.1.1.2) hs_)) (fun k_ hk_ => ⟨hk_.1.1.1.1.1.1.1.2, hk_.1.1.1.1.1.1.2, hk_.1.1.1.1.1.2, hk_.1.1.1.1.2, hk_.1.1.1.2, hk_.1.1.2, hk_.1.2⟩)); replace BK300 := zA (blk_kept (zR BK300.out) hkp (fun hs_ => (fun e_ => (Kd.R_ne HO299.out BK300.out (by decide)) e_) hs_)); replace HO299 := zA (Kd.R_reok rfl hy0 (fun k_ e_ => HO299.out.1 k_ e_)); replace HO303 := zA (kA (ok' := fun k_ => some k_ ≠ (.slice Ao50 t286.length co50 : Value).ownBlock ∧ some k_ ≠ (.slice Ao51 t289.length co51 : Value).ownBlock ∧ some k_ ≠ (.slice Ao64 t292.length co64 : Value).ownBlock ∧ some k_ ≠ (.slice Ao58 t297.length co58 : Value).ownBlock ∧ some k_ ≠ (.slice Ao63 t304.length co63 : Value).ownBlock ∧ some k_ ≠ (.slice Ao68 t310.length co68 : Value).ownBlock ∧ some k_ ≠ (.slice Ao71 t314.length co71 : Value).ownBlock) (Kd.R_keptB (HO303.out) hkp (fun k_ hk_ hs_ => (hk_.1.1.1.2) hs_)) (fun k_ hk_ => ⟨hk_.1.1.1.1.1.1.1.2, hk_.1.1.1.1.1.1.2, hk_.1.1.1.1.1.2, hk_.1.1.1.1.2, hk_.1.1.1.2, hk_.1.1.2, hk_.1.2⟩)); replace HO306 := zA (kA (ok' := fun k_ => some k_ ≠ (.slice Ao50 t286.length co50 : Value).ownBlock ∧ some k_ ≠ (.slice Ao51 t289.length co51 : Value).ownBlock ∧ some k_ ≠ (.slice Ao64 t292.length co64 : Value).ownBlock ∧ some k_ ≠ (.slice Ao58 t297.length co58 : Value).ownBlock ∧ some k_ ≠ (.slice Ao61 t301.length co61 : Value).ownBlock ∧ some k_ ≠ (.slice Ao68 t310.length co68 : Value).ownBlock ∧ some k_ ≠ (.slice Ao71 t314.length co71 : Value).ownBlock) (Kd.R_keptB (HO306.out) hkp (fun k_ hk_ hs_ => (hk_.1.1.1.2) hs_)) (fun k_ hk_ => ⟨hk_.1.1.1.1.1.1.1.2, hk_.1.1.1.1.1.1.2, hk_.1.1.1.1.1.2, hk_.1.1.1.1.2, hk_.1.1.1.2, hk_.1.1.2, hk_.1.2⟩)); replace HO312 := zA (kA (ok' := fun k_ => some k_ ≠ (.slice Ao50 t286.length co50 : Value).ownBlock ∧ some k_ ≠ (.slice Ao51 t289.length co51 : Value).ownBlock ∧ some k_ ≠ (.slice Ao64 t292.length co64 : Value).ownBlock ∧ some k_ ≠ (.slice Ao58 t297.length co58 : Value).ownBlock ∧ some k_ ≠ (.slice Ao61 t301.length co61 : Value).ownBlock ∧ some k_ ≠ (.slice Ao63 t304.length co63 : Value).ownBlock ∧ some k_ ≠ (.slice Ao71 t314.length co71 : Value).ownBlock) (Kd.R_keptB (HO312.out) hkp (fun k_ hk_ hs_ => (hk_.1.1.1.2) hs_)) (fun k_ hk_ => ⟨hk_.1.1.1.1.1.1.1.2, hk_.1.1.1.1.1.1.2, hk_.1.1.1.1.1.2, hk_.1.1.1.1.2, hk_.1.1.1.2, hk_.1.1.2, hk_.1.2⟩)); replace HO316 := zA (kA (ok' := fun k_ => some k_ ≠ (.slice Ao50 t286.length co50 : Value).ownBlock ∧ some k_ ≠ (.slice Ao51 t289.length co51 : Value).ownBlock ∧ some k_ ≠ (.slice Ao64 t292.length co64 : Value).ownBlock ∧ some k_ ≠ (.slice Ao58 t297.length co58 : Value).ownBlock ∧ some k_ ≠ (.slice Ao61 t301.length co61 : Value).ownBlock ∧ some k_ ≠ (.slice Ao63 t304.length co63 : Value).ownBlock ∧ some k_ ≠ (.slice Ao68 t310.length co68 : Value).ownBlock) (Kd.R_keptB (HO316.out) hkp (fun k_ hk_ hs_ => (hk_.1.1.1.2) hs_)) (fun k_ hk_ => ⟨hk_.1.1.1.1.1.1.1.2, hk_.1.1.1.1.1.1.2, hk_.1.1.1.1.1.2, hk_.1.1.1.1.2, hk_.1.1.1.2, hk_.1.1.2, hk_.1.2⟩)); replace HB := zA (hb); (try clear hb); (try clear hkp); (try clear hy0)) | (refine zO (some 71) Tryd.func23 #[.slice Ao61 t301.length co61, .int .i64 t318] ?_; (with_reducible refine (laws_markInt64S.calls k (fun k_ => some k_ = (.slice Ao61 t301.length co61 : Value).ownBlock) (.slice Ao61 t301.length co61) t301 t318 t320 t321 w _ ?side1 ?side2 A27.out).mono ?_); (case side1 => exact zV HB.out GE283.out GE300.out); (case side2 => exact jK rfl HO303.out); rintro e w75 ⟨rfl, hy0, hb, hkp⟩; refine ⟨_, rfl, ?_⟩; replace BK283 := zA (blk_kept (zR BK283.out) hkp (fun hs_ => (fun e_ => (Kd.R_ne HO303.out BK283.out (by decide)) e_) hs_)); replace HO288 := zA (kA (ok' := fun k_ => some k_ ≠ (.slice Ao51 t289.length co51 : Value).ownBlock ∧ some k_ ≠ (.slice Ao64 t292.length co64 : Value).ownBlock ∧ some k_ ≠ (.slice Ao58 t297.length co58 : Value).ownBlock ∧ some k_ ≠ (.slice Ao61 t301.length co61 : Value).ownBlock ∧ some k_ ≠ (.slice Ao63 t304.length co63 : Value).ownBlock ∧ some k_ ≠ (.slice Ao68 t310.length co68 : Value).ownBlock ∧ some k_ ≠ (.slice Ao71 t314.length co71 : Value).ownBlock) (Kd.R_keptB (HO288.out) hkp (fun k_ hk_ hs_ => (hk_.2.2.2.1) hs_)) (fun k_ hk_ => ⟨hk_.1.1, hk_.1.2.1, hk_.1.2.2.1, hk_.1.2.2.2.1, hk_.1.2.2.2.2.1, hk_.1.2.2.2.2.2.1, hk_.1.2.2.2.2.2.2⟩)); replace HO291 := zA (kA (ok' := fun k_ => some k_ ≠ (.slice Ao50 t286.length co50 : Value).ownBlock ∧ some k_ ≠ (.slice Ao64 t292.length co64 : Value).ownBlock ∧ some k_ ≠ (.slice Ao58 t297.length co58 : Value).ownBlock ∧ some k_ ≠ (.slice Ao61 t301.length co61 : Value).ownBlock ∧ some k_ ≠ (.slice Ao63 t304.length co63 : Value).ownBlock ∧ some k_ ≠ (.slice Ao68 t310.length co68 : Value).ownBlock ∧ some k_ ≠ (.slice Ao71 t314.length co71 : Value).ownBlock) (Kd.R_keptB (HO291.out) hkp (fun k_ hk_ hs_ => (hk_.2.2.2.1) hs_)) (fun k_ hk_ => ⟨hk_.1.1, hk_.1.2.1, hk_.1.2.2.1, hk_.1.2.2.2.1, hk_.1.2.2.2.2.1, hk_.1.2.2.2.2.2.1, hk_.1.2.2.2.2.2.2⟩)); replace HO294 := zA (kA (ok' := fun k_ => some k_ ≠ (.slice Ao50 t286.length co50 : Value).ownBlock ∧ some k_ ≠ (.slice Ao51 t289.length co51 : Value).ownBlock ∧ some k_ ≠ (.slice Ao58 t297.length co58 : Value).ownBlock ∧ some k_ ≠ (.slice Ao61 t301.length co61 : Value).ownBlock ∧ some k_ ≠ (.slice Ao63 t304.length co63 : Value).ownBlock ∧ some k_ ≠ (.slice Ao68 t310.length co68 : Value).ownBlock ∧ some k_ ≠ (.slice Ao71 t314.length co71 : Value).ownBlock) (Kd.R_keptB (HO294.out) hkp (fun k_ hk_ hs_ => (hk_.2.2.2.1) hs_)) (fun k_ hk_ => ⟨hk_.1.1, hk_.1.2.1, hk_.1.2.2.1, hk_.1.2.2.2.1, hk_.1.2.2.2.2.1, hk_.1.2.2.2.2.2.1, hk_.1.2.2.2.2.2.2⟩)); replace HO299 := zA (kA (ok' := fun k_ => some k_ ≠ (.slice Ao50 t286.length co50 : Value).ownBlock ∧ some k_ ≠ (.slice Ao51 t289.length co51 : Value).ownBlock ∧ some k_ ≠ (.slice Ao64 t292.length co64 : Value).ownBlock ∧ some k_ ≠ (.slice Ao61 t301.length co61 : Value).ownBlock ∧ some k_ ≠ (.slice Ao63 t304.length co63 : Value).ownBlock ∧ some k_ ≠ (.slice Ao68 t310.length co68 : Value).ownBlock ∧ some k_ ≠ (.slice Ao71 t314.length co71 : Value).ownBlock) (Kd.R_keptB (HO299.out) hkp (fun k_ hk_ hs_ => (hk_.1.1.1.2) hs_)) (fun k_ hk_ => ⟨hk_.1.1.1.1.1.1.1.2, hk_.1.1.1.1.1.1.2, hk_.1.1.1.1.1.2, hk_.1.1.1.1.2, hk_.1.1.1.2, hk_.1.1.2, hk_.1.2⟩)); replace BK300 := zA (blk_kept (zR BK300.out) hkp (fun hs_ => (fun e_ => (Kd.R_ne HO303.out BK300.out (by decide)) e_) hs_)); replace HO303 := zA (Kd.R_reok rfl hy0 (fun k_ e_ => HO303.out.1 k_ e_)); replace HO306 := zA (kA (ok' := fun k_ => some k_ ≠ (.slice Ao50 t286.length co50 : Value).ownBlock ∧ some k_ ≠ (.slice Ao51 t289.length co51 : Value).ownBlock ∧ some k_ ≠ (.slice Ao64 t292.length co64 : Value).ownBlock ∧ some k_ ≠ (.slice Ao58 t297.length co58 : Value).ownBlock ∧ some k_ ≠ (.slice Ao61 t301.length co61 : Value).ownBlock ∧ some k_ ≠ (.slice Ao68 t310.length co68 : Value).ownBlock ∧ some k_ ≠ (.slice Ao71 t314.length co71 : Value).ownBlock) (Kd.R_keptB (HO306.out) hkp (fun k_ hk_ hs_ => (hk_.2.2.2.2.1) hs_)) (fun k_ hk_ => ⟨hk_.1.1, hk_.1.2.1, hk_.1.2.2.1, hk_.1.2.2.2.1, hk_.1.2.2.2.2.1, hk_.1.2.2.2.2.2.1, hk_.1.2.2.2.2.2.2⟩)); replace HO312 := zA (kA (ok' := fun k_ => some k_ ≠ (.slice Ao50 t286.length co50 : Value).ownBlock ∧ some k_ ≠ (.slice Ao51 t289.length co51 : Value).ownBlock ∧ some k_ ≠ (.slice Ao64 t292.length co64 : Value).ownBlock ∧ some k_ ≠ (.slice Ao58 t297.length co58 : Value).ownBlock ∧ some k_ ≠ (.slice Ao61 t301.length co61 : Value).ownBlock ∧ some k_ ≠ (.slice Ao63 t304.length co63 : Value).ownBlock ∧ some k_ ≠ (.slice Ao71 t314.length co71 : Value).ownBlock) (Kd.R_keptB (HO312.out) hkp (fun k_ hk_ hs_ => (hk_.2.2.2.2.1) hs_)) (fun k_ hk_ => ⟨hk_.1.1, hk_.1.2.1, hk_.1.2.2.1, hk_.1.2.2.2.1, hk_.1.2.2.2.2.1, hk_.1.2.2.2.2.2.1, hk_.1.2.2.2.2.2.2⟩)); replace HO316 := zA (kA (ok' := fun k_ => some k_ ≠ (.slice Ao50 t286.length co50 : Value).ownBlock ∧ some k_ ≠ (.slice Ao51 t289.length co51 : Value).ownBlock ∧ some k_ ≠ (.slice Ao64 t292.length co64 : Value).ownBlock ∧ some k_ ≠ (.slice Ao58 t297.length co58 : Value).ownBlock ∧ some k_ ≠ (.slice Ao61 t301.length co61 : Value).ownBlock ∧ some k_ ≠ (.slice Ao63 t304.length co63 : Value).ownBlock ∧ some k_ ≠ (.slice Ao68 t310.length co68 : Value).ownBlock) (Kd.R_keptB (HO316.out) hkp (fun k_ hk_ hs_ => (hk_.2.2.2.2.1) hs_)) (fun k_ hk_ => ⟨hk_.1.1, hk_.1.2.1, hk_.1.2.2.1, hk_.1.2.2.2.1, hk_.1.2.2.2.2.1, hk_.1.2.2.2.2.2.1, hk_.1.2.2.2.2.2.2⟩)); replace HB := zA (hb); (try clear hb); (try clear hkp); (try clear hy0)) | (go_at_call 20; (with_reducible refine (laws_eqInt64S_BFnExactPowerOf.calls k _ _ t304 _ _ t292 true _ ?side1 ?side2 ?side3 ?side4 A29.out).mono ?_); (case side1 => exact zS (kB HO306.out).2.2); (case side2 => exact (kB HO306.out).2.1); (case side3 => exact zS (kB HO294.out).2.2); (case side4 => exact (kB HO294.out).2.1); rintro e w76 ⟨rfl, hb⟩; replace HO288 := zA (kL (zP HO288.out) hb); replace HO291 := zA (kL (zP HO291.out) hb); replace HO294 := zA (kL (zP HO294.out) hb); replace HO299 := zA (kL (zP HO299.out) hb); replace HO303 := zA (kL (zP HO303.out) hb); replace HO306 := zA (kL (zP HO306.out) hb); replace HO312 := zA (kL (zP HO312.out) hb); replace HO316 := zA (kL (zP HO316.out) hb); replace BK283 := zA (zB1 BK283.out hb); replace BK300 := zA (zB1 BK300.out hb); replace HB := zA (kQ (zV HB.out GE283.out GE300.out) hb); (try clear hb); (try clear hb2); (try clear hk); (try clear hi); (try clear hgw)) | (refine zO (some 87) Tryd.func23 #[.slice Ao63 t304.length co63, .int .i64 1] ?_; (with_reducible refine (laws_markInt64S.calls k (fun k_ => some k_ = (.slice Ao63 t304.length co63 : Value).ownBlock) (.slice Ao63 t304.length co63) t304 1 t323 t324 w _ ?side1 ?side2 A31.out).mono ?_); (case side1 => exact zV HB.out GE283.out GE300.out); (case side2 => exact jK rfl HO306.out); rintro e w77 ⟨rfl, hy0, hb, hkp⟩; refine ⟨_, rfl, ?_⟩; replace BK283 := zA (blk_kept (zR BK283.out) hkp (fun hs_ => (fun e_ => (Kd.R_ne HO306.out BK283.out (by decide)) e_) hs_)); replace HO288 := zA (kA (ok' := fun k_ => some k_ ≠ (.slice Ao51 t289.length co51 : Value).ownBlock ∧ some k_ ≠ (.slice Ao64 t292.length co64 : Value).ownBlock ∧ some k_ ≠ (.slice Ao58 t297.length co58 : Value).ownBlock ∧ some k_ ≠ (.slice Ao61 t301.length co61 : Value).ownBlock ∧ some k_ ≠ (.slice Ao63 t304.length co63 : Value).ownBlock ∧ some k_ ≠ (.slice Ao68 t310.length co68 : Value).ownBlock ∧ some k_ ≠ (.slice Ao71 t314.length co71 : Value).ownBlock) (Kd.R_keptB (HO288.out) hkp (fun k_ hk_ hs_ => (hk_.2.2.2.2.1) hs_)) (fun k_ hk_ => ⟨hk_.1.1, hk_.1.2.1, hk_.1.2.2.1, hk_.1.2.2.2.1, hk_.1.2.2.2.2.1, hk_.1.2.2.2.2.2.1, hk_.1.2.2.2.2.2.2⟩)); replace HO291 := zA (kA (ok' := fun k_ => some k_ ≠ (.slice Ao50 t286.length co50 : Value).ownBlock ∧ some k_ ≠ (.slice Ao64 t292.length co64 : Value).ownBlock ∧ some k_ ≠ (.slice Ao58 t297.length co58 : Value).ownBlock ∧ some k_ ≠ (.slice Ao61 t301.length co61 : Value).ownBlock ∧ some k_ ≠ (.slice Ao63 t304.length co63 : Value).ownBlock ∧ some k_ ≠ (.slice Ao68 t310.length co68 : Value).ownBlock ∧ some k_ ≠ (.slice Ao71 t314.length co71 : Value).ownBlock) (Kd.R_keptB (HO291.out) hkp (fun k_ hk_ hs_ => (hk_.2.2.2.2.1) hs_)) (fun k_ hk_ => ⟨hk_.1.1, hk_.1.2.1, hk_.1.2.2.1, hk_.1.2.2.2.1, hk_.1.2.2.2.2.1, hk_.1.2.2.2.2.2.1, hk_.1.2.2.2.2.2.2⟩)); replace HO294 := zA (kA (ok' := fun k_ => some k_ ≠ (.slice Ao50 t286.length co50 : Value).ownBlock ∧ some k_ ≠ (.slice Ao51 t289.length co51 : Value).ownBlock ∧ some k_ ≠ (.slice Ao58 t297.length co58 : Value).ownBlock ∧ some k_ ≠ (.slice Ao61 t301.length co61 : Value).ownBlock ∧ some k_ ≠ (.slice Ao63 t304.length co63 : Value).ownBlock ∧ some k_ ≠ (.slice Ao68 t310.length co68 : Value).ownBlock ∧ some k_ ≠ (.slice Ao71 t314.length co71 : Value).ownBlock) (Kd.R_keptB (HO294.out) hkp (fun k_ hk_ hs_ => (hk_.2.2.2.2.1) hs_)) (fun k_ hk_ => ⟨hk_.1.1, hk_.1.2.1, hk_.1.2.2.1, hk_.1.2.2.2.1, hk_.1.2.2.2.2.1, hk_.1.2.2.2.2.2.1, hk_.1.2.2.2.2.2.2⟩)); replace HO299 := zA (kA (ok' := fun k_ => some k_ ≠ (.slice Ao50 t286.length co50 : Value).ownBlock ∧ some k_ ≠ (.slice Ao51 t289.length co51 : Value).ownBlock ∧ some k_ ≠ (.slice Ao64 t292.length co64 : Value).ownBlock ∧ some k_ ≠ (.slice Ao61 t301.length co61 : Value).ownBlock ∧ some k_ ≠ (.slice Ao63 t304.length co63 : Value).ownBlock ∧ some k_ ≠ (.slice Ao68 t310.length co68 : Value).ownBlock ∧ some k_ ≠ (.slice Ao71 t314.length co71 : Value).ownBlock) (Kd.R_keptB (HO299.out) hkp (fun k_ hk_ hs_ => (hk_.2.2.2.2.1) hs_)) (fun k_ hk_ => ⟨hk_.1.1, hk_.1.2.1, hk_.1.2.2.1, hk_.1.2.2.2.1, hk_.1.2.2.2.2.1, hk_.1.2.2.2.2.2.1, hk_.1.2.2.2.2.2.2⟩)); replace BK300 := zA (blk_kept (zR BK300.out) hkp (fun hs_ => (fun e_ => (Kd.R_ne HO306.out BK300.out (by decide)) e_) hs_)); replace HO303 := zA (kA (ok' := fun k_ => some k_ ≠ (.slice Ao50 t286.length co50 : Value).ownBlock ∧ some k_ ≠ (.slice Ao51 t289.length co51 : Value).ownBlock ∧ some k_ ≠ (.slice Ao64 t292.length co64 : Value).ownBlock ∧ some k_ ≠ (.slice Ao58 t297.length co58 : Value).ownBlock ∧ some k_ ≠ (.slice Ao63 t304.length co63 : Value).ownBlock ∧ some k_ ≠ (.slice Ao68 t310.length co68 : Value).ownBlock ∧ some k_ ≠ (.slice Ao71 t314.length co71 : Value).ownBlock) (Kd.R_keptB (HO303.out) hkp (fun k_ hk_ hs_ => (hk_.2.2.2.2.1) hs_)) (fun k_ hk_ => ⟨hk_.1.1, hk_.1.2.1, hk_.1.2.2.1, hk_.1.2.2.2.1, hk_.1.2.2.2.2.1, hk_.1.2.2.2.2.2.1, hk_.1.2.2.2.2.2.2⟩)); replace HO306 := zA (Kd.R_reok rfl hy0 (fun k_ e_ => HO306.out.1 k_ e_)); replace HO312 := zA (kA (ok' := fun k_ => some k_ ≠ (.slice Ao50 t286.length co50 : Value).ownBlock ∧ some k_ ≠ (.slice Ao51 t289.length co51 : Value).ownBlock ∧ some k_ ≠ (.slice Ao64 t292.length co64 : Value).ownBlock ∧ some k_ ≠ (.slice Ao58 t297.length co58 : Value).ownBlock ∧ some k_ ≠ (.slice Ao61 t301.length co61 : Value).ownBlock ∧ some k_ ≠ (.slice Ao63 t304.length co63 : Value).ownBlock ∧ some k_ ≠ (.slice Ao71 t314.length co71 : Value).ownBlock) (Kd.R_keptB (HO312.out) hkp (fun k_ hk_ hs_ => (hk_.2.2.2.2.2.1) hs_)) (fun k_ hk_ => ⟨hk_.1.1, hk_.1.2.1, hk_.1.2.2.1, hk_.1.2.2.2.1, hk_.1.2.2.2.2.1, hk_.1.2.2.2.2.2.1, hk_.1.2.2.2.2.2.2⟩)); replace HO316 := zA (kA (ok' := fun k_ => some k_ ≠ (.slice Ao50 t286.length co50 : Value).ownBlock ∧ some k_ ≠ (.slice Ao51 t289.length co51 : Value).ownBlock ∧ some k_ ≠ (.slice Ao64 t292.length co64 : Value).ownBlock ∧ some k_ ≠ (.slice Ao58 t297.length co58 : Value).ownBlock ∧ some k_ ≠ (.slice Ao61 t301.length co61 : Value).ownBlock ∧ some k_ ≠ (.slice Ao63 t304.length co63 : Value).ownBlock ∧ some k_ ≠ (.slice Ao68 t310.length co68 : Value).ownBlock) (Kd.R_keptB (HO316.out) hkp (fun k_ hk_ hs_ => (hk_.2.2.2.2.2.1) hs_)) (fun k_ hk_ => ⟨hk_.1.1, hk_.1.2.1, hk_.1.2.2.1, hk_.1.2.2.2.1, hk_.1.2.2.2.2.1, hk_.1.2.2.2.2.2.1, hk_.1.2.2.2.2.2.2⟩)); replace HB := zA (hb); (try clear hb); (try clear hkp); (try clear hy0)) | ((with_reducible refine kR (f := 24) rfl ?_); refine goesL_ (some 90) rfl rfl Tryd.func24 (by kernel_rfl) rfl #[.slice Ao63 t324.length co63, .int .i64 1] rfl (by (try simp only [List.map_toArray, List.map_cons, List.map_nil]); first | done | (rw [show t324.length = t304.length from (kB HO306.out).1.symm] <;> rfl) | rfl | (simp only [List.length_drop, List.length_take]; rfl)) ?_; (with_reducible refine (laws_heldInt64S.calls k _ _ t324 1 t325 _ ?side1 ?side2 A32.out).mono ?_); (case side1 => exact zS (kB HO306.out).2.2); (case side2 => rw [show t324.length = t304.length from (kB HO306.out).1.symm]; exact (kB HO306.out).2.1); rintro e w' ⟨rfl, ⟨nd, rfl⟩⟩; refine ⟨_, rfl, ?_⟩; obtain ⟨hcz78_0, hcz78_1, hfz78_0, hfz78_1⟩ := zB3 BK283.out) | (refine zO (some 98) Tryd.func17 #[.agg #[.int .i64 a0_0, .slice A0_1 l0_1.length c0_1]] ?_; (with_reducible refine (laws_toAlphabet.calls k a0_0 _ _ l0_1 t326 t327 _ ?side1 ?side2 A35.out).mono ?_); (case side1 => exact zS (kO HR0_1.out (zV HB.out GE283.out GE300.out))); (case side2 => exact HC0_1.out); rintro e w79 ⟨v328, rfl, ho0, hb⟩; refine ⟨_, rfl, ?_⟩; have HO329 := zA (kI (kF (kF (kF (kF (kF (kF (kF (kF ho0 (kH (zP HO288.out))) (kH (zP HO291.out))) (kH (zP HO294.out))) (kH (zP HO299.out))) (kH (zP HO303.out))) (kH (zP HO306.out))) (kH (zP HO312.out))) (kH (zP HO316.out))) (kP (zV HB.out GE283.out GE300.out))); replace HO288 := zA (kE (zP HO288.out) (kC ho0) hb); replace HO291 := zA (kE (zP HO291.out) (kC ho0) hb); replace HO294 := zA (kE (zP HO294.out) (kC ho0) hb); replace HO299 := zA (kE (zP HO299.out) (kC ho0) hb); replace HO303 := zA (kE (zP HO303.out) (kC ho0) hb); replace HO306 := zA (kE (zP HO306.out) (kC ho0) hb); replace HO312 := zA (kE (zP HO312.out) (kC ho0) hb); replace HO316 := zA (kE (zP HO316.out) (kC ho0) hb); replace BK283 := zA (zB1 BK283.out hb); replace BK300 := zA (zB1 BK300.out hb); replace HB := zA (kQ (zV HB.out GE283.out GE300.out) hb); (try clear hb); (try clear ho0)) | (refine zO (some 100) Tryd.func18 #[.slice A1 l1.length c1] ?_; (with_reducible refine (laws_toInt64S.calls k _ _ l1 t330 _ ?side1 ?side2 A36.out).mono ?_); (case side1 => exact zS (kO HR1.out HB.out)); (case side2 => exact HC1.out); rintro e w80 ⟨v331, rfl, ho0, hb⟩; refine ⟨_, rfl, ?_⟩; have HO332 := zA (kI (kF (kF (kF (kF (kF (kF (kF (kF (kF ho0 (kH (zP HO288.out))) (kH (zP HO291.out))) (kH (zP HO294.out))) (kH (zP HO299.out))) (kH (zP HO303.out))) (kH (zP HO306.out))) (kH (zP HO312.out))) (kH (zP HO316.out))) (kH (zP HO329.out))) (kP (zV HB.out GE283.out GE300.out))); replace HO288 := zA (kE (zP HO288.out) (kC ho0) hb); replace HO291 := zA (kE (zP HO291.out) (kC ho0) hb); replace HO294 := zA (kE (zP HO294.out) (kC ho0) hb); replace HO299 := zA (kE (zP HO299.out) (kC ho0) hb); replace HO303 := zA (kE (zP HO303.out) (kC ho0) hb); replace HO306 := zA (kE (zP HO306.out) (kC ho0) hb); replace HO312 := zA (kE (zP HO312.out) (kC ho0) hb); replace HO316 := zA (kE (zP HO316.out) (kC ho0) hb); replace HO329 := zA (kE (zP HO329.out) (kC ho0) hb); replace BK283 := zA (zB1 BK283.out hb); replace BK300 := zA (zB1 BK300.out hb); replace HB := zA (kQ (zV HB.out GE283.out GE300.out) hb); (try clear hb); (try clear ho0); obtain ⟨Ao81, co81, eo81⟩ := kM HO329.out; subst eo81; obtain ⟨Ao82, co82, eo82⟩ := kM HO332.out; subst eo82) | (refine zO (some 102) Tryd.func19 #[.agg #[.int .i64 t326, .slice Ao81 t327.length co81], .slice Ao82 t330.length co82, .int .i64 a2] ?_; (with_reducible refine (impl_PowerOf.calls k t326 (fun k_ => some k_ = (.slice Ao81 t327.length co81 : Value).ownBlock) _ _ t327 (fun k_ => some k_ = (.slice Ao82 t330.length co82 : Value).ownBlock) _ _ t330 a2 t333 t336 _ ?side1 ?side2 ?side3 A37.out).mono ?_); (case side1 => exact jL (jK rfl (kD (kD (HO329.out) BK283.out (by decide)) BK300.out (by decide)))); (case side2 => exact jL (jK rfl (kD (kD (HO332.out) BK283.out (by decide)) BK300.out (by decide)))); (case side3 => exact TabW.below HT.out (zV HB.out GE283.out GE300.out)); rintro e w83 ⟨v334, rfl, ho0, hb⟩; refine ⟨_, rfl, ?_⟩; have HO335 := zA (kI (kF (kF (kF (kF (kF (kF (kF (kF (kF (kF (kA (ok' := fun k_ => True) ho0 (fun _ hk_ => trivial)) (kH (zP HO288.out))) (kH (zP HO291.out))) (kH (zP HO294.out))) (kH (zP HO299.out))) (kH (zP HO303.out))) (kH (zP HO306.out))) (kH (zP HO312.out))) (kH (zP HO316.out))) (kH (zP HO329.out))) (kH (zP HO332.out))) (kP (zV HB.out GE283.out GE300.out))); replace HO288 := zA (kE (zP HO288.out) (kC ho0) hb); replace HO291 := zA (kE (zP HO291.out) (kC ho0) hb); replace HO294 := zA (kE (zP HO294.out) (kC ho0) hb); replace HO299 := zA (kE (zP HO299.out) (kC ho0) hb); replace HO303 := zA (kE (zP HO303.out) (kC ho0) hb); replace HO306 := zA (kE (zP HO306.out) (kC ho0) hb); replace HO312 := zA (kE (zP HO312.out) (kC ho0) hb); replace HO316 := zA (kE (zP HO316.out) (kC ho0) hb); replace HO329 := zA (kE (zP HO329.out) (kC ho0) hb); replace HO332 := zA (kE (zP HO332.out) (kC ho0) hb); replace BK283 := zA (zB1 BK283.out hb); replace BK300 := zA (zB1 BK300.out hb); replace HB := zA (kQ (zV HB.out GE283.out GE300.out) hb); (try clear hb); (try clear ho0); obtain ⟨Ao84, co84, eo84⟩ := kM HO335.out; subst eo84) | (refine zO (some 107) Tryd.func20 #[.slice Ao84 t333.length co84, .slice Ao64 t292.length co64] ?_; (with_reducible refine (laws_eqInt64S_BFnExactPowerOf.calls k _ _ t333 _ _ t292 true _ ?side1 ?side2 ?side3 ?side4 A38.out).mono ?_); (case side1 => exact zS (kB HO335.out).2.2); (case side2 => exact (kB HO335.out).2.1); (case side3 => exact zS (kB HO294.out).2.2); (case side4 => exact (kB HO294.out).2.1); rintro e w85 ⟨rfl, hb⟩; refine ⟨_, rfl, ?_⟩; replace HO288 := zA (kL (zP HO288.out) hb); replace HO291 := zA (kL (zP HO291.out) hb); replace HO294 := zA (kL (zP HO294.out) hb); replace HO299 := zA (kL (zP HO299.out) hb); replace HO303 := zA (kL (zP HO303.out) hb); replace HO306 := zA (kL (zP HO306.out) hb); replace HO312 := zA (kL (zP HO312.out) hb); replace HO316 := zA (kL (zP HO316.out) hb); replace HO329 := zA (kL (zP HO329.out) hb); replace HO332 := zA (kL (zP HO332.out) hb); replace HO335 := zA (kL (zP HO335.out) hb); replace BK283 := zA (zB1 BK283.out hb); replace BK300 := zA (zB1 BK300.out hb); replace HB := zA (kQ (zV HB.out GE283.out GE300.out) hb); (try clear hb)) | ((with_reducible refine kR (f := 24) rfl ?_); refine goesL_ (some 116) rfl rfl Tryd.func24 (by kernel_rfl) rfl #[.slice Ao63 t324.length co63, .int .i64 1] rfl (by (try simp only [List.map_toArray, List.map_cons, List.map_nil]); first | done | (rw [show t324.length = t304.length from (kB HO306.out).1.symm] <;> rfl) | rfl | (simp only [List.length_drop, List.length_take]; rfl)) ?_; (with_reducible refine (laws_heldInt64S.calls k _ _ t324 1 t338 _ ?side1 ?side2 A41.out).mono ?_); (case side1 => exact zS (kB HO306.out).2.2); (case side2 => rw [show t324.length = t304.length from (kB HO306.out).1.symm]; exact (kB HO306.out).2.1); rintro e w' ⟨rfl, ⟨nd, rfl⟩⟩; refine ⟨_, rfl, ?_⟩))
          go_ret
          exact ⟨zr, zV HB.out GE283.out GE300.out⟩
         rw [if_neg c43] at H
         exact absurd H (by simp)
        rw [if_neg c40] at H
        exact absurd H (by simp)
       replace c39 := Bool.eq_false_iff.mpr c39
       subst c39
       rw [if_neg (show ¬ (false = true) by decide)] at H
       exact absurd H (by simp)
      rw [if_neg c34] at H
      exact absurd H (by simp)
     replace c30 := Bool.eq_false_iff.mpr c30
     subst c30
     rw [if_neg (show ¬ (false = true) by decide)] at H
     exact absurd H (by simp)
    replace c25 := Bool.eq_false_iff.mpr c25
    subst c25
    rw [if_neg (show ¬ (false = true) by decide)] at H
    exact absurd H (by simp)
   replace c22 := Bool.eq_false_iff.mpr c22
   subst c22
   rw [if_neg (show ¬ (false = true) by decide)] at H
   exact absurd H (by simp)
  rw [if_neg c19] at H
  exact absurd H (by simp)
 replace c18 := Bool.eq_false_iff.mpr c18
 subst c18
 rw [if_neg (show ¬ (false = true) by decide)] at H
 exact absurd H (by simp)

end Go.Proofs.YtfnnnopbcdiibaaDoor.PAll
