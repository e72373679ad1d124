-- Printed by a program of the session (wip/tools/pgen.py) out of the translation. Not trusted: Lean checks it.
import Derived.Test.YtcboobfmenonhaaDoorPAllx0
import Derived.Test.YtcboobfmenonhaaDoorPAllx1
import Derived.Test.YtcboobfmenonhaaDoorPAllx2
import Derived.Test.YtcboobfmenonhaaDoorPAllx3
namespace Go.Proofs.YtcboobfmenonhaaDoor.PAll
open Go.RowKit Go.Proofs.YtcboobfmenonhaaDoor.T Go.Proofs.YtcboobfmenonhaaDoorW.PrintWords Go.Proofs.YtcboobfmenonhaaDoorW.PrintLast Go.Proofs.YtcboobfmenonhaaDoorW.PrintMore
attribute [local go_sem] max2_int min2_int max_two min_two max_three min_three max_four min_four   -- for this text's walks alone
set_option linter.unusedVariables false
set_option linter.unusedSimpArgs false

/-! ### spec_l03Draw: function 118 -/
def spec_l03Draw.l0 : Nat → List Int → Int → List Int → Int → Int → Int → List Int → Option (List Int × Int × Int)
 | 0, _, _, _, _, _, _, _ => none
 | k + 1, x7, x8, x1000, x1001, x1002, x316000, x316001 => if x8 > 0 then (if (x7.length : Int) > 0 then ((spec_l01Next.f x1000 x1001 x1002 8).bind fun bt322 => (if bt322.1 = 0 then (if 0 ≤ (wrap64 ((x7.length : Int) - 1)) then (if (wrap64 ((x7.length : Int) - 1)) < (x7.length : Int) then (if x7.length < 17592186044416 then (spec_l03Draw.l0 k (x7 ++ [rd x7 (wrap64 ((x7.length : Int) - 1))]) (wrap64 (x8 - 1)) x1000 bt322.2.1 bt322.2.2 x316000 x316001) else (none)) else (none)) else (none)) else ((spec_l01Next.f x1000 bt322.2.1 bt322.2.2 x316000).bind fun bt329 => (if x7.length < 17592186044416 then (spec_l03Draw.l0 k (x7 ++ [bt329.1]) (wrap64 (x8 - 1)) x1000 bt329.2.1 bt329.2.2 x316000 x316001) else (none))))) else ((spec_l01Next.f x1000 x1001 x1002 x316000).bind fun bt335 => (if x7.length < 17592186044416 then (spec_l03Draw.l0 k (x7 ++ [bt335.1]) (wrap64 (x8 - 1)) x1000 bt335.2.1 bt335.2.2 x316000 x316001) else (none)))) else (some (x7, x1001, x1002))
def spec_l03Draw.f (k : Nat) (s0_0 : List Int) (s0_1 : Int) (s0_2 : Int) (a1_0 : Int) (l1_1 : List Int) (a2 : Int) : Option (List Int × Int × Int) := (some (([] : List Int) : List Int)).bind fun y316 => (if a1_0 = 0 then (some (y316, s0_1, s0_2)) else ((spec_l01Next.f s0_0 s0_1 s0_2 (wrap64 (a2 + 1))).bind fun bt319 => (spec_l03Draw.l0 k y316 bt319.1 s0_0 bt319.2.1 bt319.2.2 a1_0 l1_1)))

set_option maxHeartbeats 8000000 in
set_option maxRecDepth 100000 in
theorem spec_l03Draw.calls (k : Nat) (g : Nat) (s0_0 : List Int) (s0_1 : Int) (s0_2 : Int) (a1_0 : Int) (A1_1 : Option Addr) (c1_1 : Nat) (l1_1 : List Int) (a2 : Int) (r1 : List Int) (r2 : Int) (r3 : Int) (w0 w : World) (hI : Z98 w0 w g s0_0 s0_1 s0_2) (hB : Below w0.heap.size w0 w) (hr1_1 : Kd.C (Kd.int .i64) w A1_1 l1_1.length l1_1) (hc1_1 : l1_1.length ≤ c1_1) (hf1_1 : ∀ ad, A1_1 = some ad → 0 < l1_1.length → ad.block ≠ g) (h : spec_l03Draw.f k s0_0 s0_1 s0_2 a1_0 l1_1 a2 = some (r1, r2, r3)) :
  Calls Tryd.prog 118 #[.pointer (some ⟨g, 0, none⟩), .agg #[.int .i64 a1_0, .slice A1_1 l1_1.length c1_1], .int .i64 a2] w fun e w' => ∃ v0_ : Value, e = .returned (v0_) ∧ Kd.R (Kd.int .i64) 2 w' w.heap.size (fun _ => True) v0_ r1 ∧ Z98 w0 w' g s0_0 r2 r3 ∧ Below w0.heap.size w0 w' ∧ KeepBut w w' g none := by
 have hu26 := Tryd.underlying26
 have HR1_1 := zA hr1_1
 have HC1_1 := zA hc1_1
 clear hr1_1 hc1_1
 have HI0 := zA hI
 have HK := zA (KeepBut.refl w g none)
 have HL := zA hB.size
 clear hI
 have HW0 := zA hB.size
 have HB := zA hB
 clear hB
 have H := h
 unfold spec_l03Draw.f at H
 clear h
 obtain ⟨y316, hy316⟩ : ∃ y_ : List Int, y_ = (([] : List Int)) := ⟨_, rfl⟩
 replace H : (if a1_0 = 0 then (some (y316, s0_1, s0_2)) else ((spec_l01Next.f s0_0 s0_1 s0_2 (wrap64 (a2 + 1))).bind fun bt319 => (spec_l03Draw.l0 k y316 bt319.1 s0_0 bt319.2.1 bt319.2.2 a1_0 l1_1))) = some (r1, r2, r3) := zy hy316 H
 have Ny316 := zA hy316
 clear hy316
 by_cases c4 : a1_0 = 0
 ·rw [if_pos c4] at H
  obtain ⟨c4b0, c4b1⟩ := zT1 c4
  clear c4
  simp only [Option.some.injEq, Prod.mk.injEq] at H
  obtain ⟨rfl, rfl, rfl⟩ := H
  go_enter Tryd.func118, Tryd.ntmps118
  go_wp2_with (first | (refine zBE 4 #[.int .i64 a1_0, .slice A1_1 l1_1.length c1_1] 26 ?_; intro gb315 hg w5 hbox hb; replace HB := zA (kQ (zT HB.out (Z98.ge HI0.out)) hb); have BK315 := zA (hbox); have GW315 := zA (zB6 hg (kX (w := w) (g := g) (row := none) (yA HK.out)) : w.heap.size ≤ gb315); have GE315 := zA ((Nat.le_trans HW0.out (by rw [hg]; exact (kX (w := w) (g := g) (row := none) (yA HK.out)) : w.heap.size ≤ gb315) : w0.heap.size ≤ gb315)); replace HK := zA (kT (yA HK.out) (kU hb g none) (.inl rfl)); have NB0_315 := zA (zB7 hg (Z98.lt (show Z98 w0 _ g s0_0 s0_1 s0_2 from Z98.uA HI0.out)) : g ≠ gb315); have NB315_0 := zA (zB8 hg (Z98.lt (show Z98 w0 _ g s0_0 s0_1 s0_2 from Z98.uA HI0.out)) : gb315 ≠ g); replace HI0 := zA (Z98.below (Z98.uA HI0.out) hb); clear hb hbox hg) | ((with_reducible refine kS (N := 9) rfl ?_); refine Kd.R_lit (Kd.int .i64) _ 2 ?hg (N := 9) ?hd (xs := ([] : List Int)) (inner := []) (ok := fun _ => True) (okp := fun _ => True) ?hr ?hp (fun _ hk => hk) trivial (kW _ _) (Nat.le_refl _) (by simp) ?_; (case hd => rfl); (case hg => rfl); (case hr => first | (go_simp; done) | (go_simp; rfl)); (case hp => exact (Reps.none _ _)); intro v317 w6 ho7 hb hg_ hnew_; clear hg_ hnew_; (first | rw [← Ny316.out] at ho7 | (simp only [Int.reduceToNat] at ho7; rw [← Ny316.out] at ho7)); have HO318 := zA (kI ho7 (kX (w := w) (g := g) (row := none) (yB HK.out GW315.out))); replace BK315 := zA (zB1 BK315.out hb); replace HK := zA (kT (yB HK.out GW315.out) (kU hb g none) (.inl rfl)); replace HB := zA (kQ (zV HB.out (Z98.ge HI0.out) GE315.out) hb); replace HI0 := zA (Z98.below (Z98.uB HI0.out NB0_315.out) hb); clear hb ho7; have hnb8 := NB315_0.out; have hnc8 := NB0_315.out; obtain ⟨hcz9_0, hcz9_1, hfz9_0, hfz9_1⟩ := zB3 BK315.out))
  go_ret
  exact ⟨_, zr, zP HO318.out, by repeat (first | (with_reducible first | exact HI0.out | apply Z98.alloc | apply Z98.drewN | apply Z98.drew | apply Z98.set_1 | apply Z98.set_2 | refine Z98.far ?_ NB0_315.out _) | exact HI0.out), zV HB.out (Z98.ge HI0.out) GE315.out, by repeat (first | (with_reducible first | exact HK.out | apply KeepBut.set_ | apply keep_drewN | apply keep_drew | apply keep_alloc | refine keep_far ?_ GW315.out _) | exact HK.out)⟩
 rw [if_neg c4] at H
 obtain ⟨c4b0, c4b1⟩ := zT2 c4
 obtain ⟨⟨t319, t320, t321⟩, A10, H⟩ := zb H
 try dsimp only at H
 have H' := zA H
 clear H
 go_enter Tryd.func118, Tryd.ntmps118
 go_wp2_with (first | (refine zBE 4 #[.int .i64 a1_0, .slice A1_1 l1_1.length c1_1] 26 ?_; intro gb315 hg w11 hbox hb; replace HB := zA (kQ (zT HB.out (Z98.ge HI0.out)) hb); have BK315 := zA (hbox); have GW315 := zA (zB6 hg (kX (w := w) (g := g) (row := none) (yA HK.out)) : w.heap.size ≤ gb315); have GE315 := zA ((Nat.le_trans HW0.out (by rw [hg]; exact (kX (w := w) (g := g) (row := none) (yA HK.out)) : w.heap.size ≤ gb315) : w0.heap.size ≤ gb315)); replace HK := zA (kT (yA HK.out) (kU hb g none) (.inl rfl)); have NB0_315 := zA (zB7 hg (Z98.lt (show Z98 w0 _ g s0_0 s0_1 s0_2 from Z98.uA HI0.out)) : g ≠ gb315); have NB315_0 := zA (zB8 hg (Z98.lt (show Z98 w0 _ g s0_0 s0_1 s0_2 from Z98.uA HI0.out)) : gb315 ≠ g); replace HI0 := zA (Z98.below (Z98.uA HI0.out) hb); clear hb hbox hg) | ((with_reducible refine kS (N := 9) rfl ?_); refine Kd.R_lit (Kd.int .i64) _ 2 ?hg (N := 9) ?hd (xs := ([] : List Int)) (inner := []) (ok := fun _ => True) (okp := fun _ => True) ?hr ?hp (fun _ hk => hk) trivial (kW _ _) (Nat.le_refl _) (by simp) ?_; (case hd => rfl); (case hg => rfl); (case hr => first | (go_simp; done) | (go_simp; rfl)); (case hp => exact (Reps.none _ _)); intro v317 w12 ho13 hb hg_ hnew_; clear hg_ hnew_; (first | rw [← Ny316.out] at ho13 | (simp only [Int.reduceToNat] at ho13; rw [← Ny316.out] at ho13)); have HO318 := zA (kI ho13 (kX (w := w) (g := g) (row := none) (yB HK.out GW315.out))); replace BK315 := zA (zB1 BK315.out hb); replace HK := zA (kT (yB HK.out GW315.out) (kU hb g none) (.inl rfl)); replace HB := zA (kQ (zV HB.out (Z98.ge HI0.out) GE315.out) hb); replace HI0 := zA (Z98.below (Z98.uB HI0.out NB0_315.out) hb); clear hb ho13; have hnb14 := NB315_0.out; have hnc14 := NB0_315.out; obtain ⟨hcz15_0, hcz15_1, hfz15_0, hfz15_1⟩ := zB3 BK315.out) | (refine zO (some 17) Tryd.func51 #[.pointer (some ⟨g, 0, none⟩), .int .i64 (wrap64 (a2 + 1))] ?_; (with_reducible refine (spec_l01Next.calls g s0_0 s0_1 s0_2 (wrap64 (a2 + 1)) t319 t320 t321 w0 _ ?side1 ?side2 A10.out).mono ?_); (case side1 => exact Z98.uB HI0.out NB0_315.out); (case side2 => exact zV HB.out (Z98.ge HI0.out) GE315.out); rintro e w16 ⟨rfl, hi, hb, hk⟩; refine ⟨_, rfl, ?_⟩; replace BK315 := zA (zB2 hk BK315.out NB315_0.out); replace HO318 := zA (zB9 (Z98.apart (show Z98 w0 _ g s0_0 s0_1 s0_2 from Z98.uB HI0.out NB0_315.out) (zP HO318.out) (by decide)) hk); replace HK := zA (kT (yB HK.out GW315.out) hk (.inl rfl)); replace HB := zA (hb); replace HI0 := zA (hi); (try clear hb); (try clear hk); (try clear hi)))
 go_loopg [7, 8] k (fun kq v7 v8 w' => ∃ (x7_1 : List Int) (x8_1 : Int) (x1001_1 : Int) (x1002_1 : Int), v8 = .int .i64 x8_1 ∧ Aside0 (spec_l03Draw.l0 kq x7_1 x8_1 s0_0 x1001_1 x1002_1 a1_0 l1_1 = some (r1, r2, r3)) ∧ Aside0 (kq ≤ k) ∧ Aside0 (Kd.R (Kd.int .i64) 2 w' w.heap.size (fun _ => True) v7 x7_1) ∧ Aside0 (w'.heap[gb315]? = some (.cells #[.int .i64 a1_0, (.slice A1_1 l1_1.length c1_1)] 26 (0, 0))) ∧ Aside0 (Z98 w0 w' g s0_0 x1001_1 x1002_1) ∧ Aside0 (KeepBut w w' g none) ∧ Aside0 (Below w0.heap.size w0 w'))
 case atStart => exact ⟨(y316), (t319), (t320), (t321), zs, H', ⟨Nat.le_refl _⟩, ⟨zP HO318.out⟩, ⟨zR BK315.out⟩, ⟨Z98.uB HI0.out NB0_315.out⟩, ⟨yB HK.out GW315.out⟩, ⟨zV HB.out (Z98.ge HI0.out) GE315.out⟩⟩
 case round =>
  clear H'
  try clear c1
  try clear c4
  try clear c5
  try clear c8
  try clear c11
  try clear c14
  try clear hcz15_0
  try clear hcz15_1
  try clear hcz9_0
  try clear hcz9_1
  try clear hfz15_0
  try clear hfz15_1
  try clear hfz9_0
  try clear hfz9_1
  obtain ⟨x7_1, x8_1, x1001_1, x1002_1, rfl, HA, HK1, HO_7, BK315, HI0, HK, HB⟩ := hrel
  cases gk with
  | zero => exact absurd HA.out (by simp [spec_l03Draw.l0])
  | succ k1 =>
   have H := HA.out
   clear HA
   simp only [spec_l03Draw.l0] at H
   by_cases c17 : x8_1 > 0
   ·rw [if_pos c17] at H
    have c17b0 : decide (0 < x8_1) = true := decide_eq_true c17
    clear c17
    by_cases c18 : (x7_1.length : Int) > 0
    ·rw [if_pos c18] at H
     have c18b0 : decide (0 < (x7_1.length : Int)) = true := decide_eq_true c18
     have c18b1 : decide (0 < x7_1.length) = true := decide_eq_true (by omega)
     clear c18
     obtain ⟨⟨t322, t323, t324⟩, A19, H⟩ := zb H
     try dsimp only at H
     by_cases c20 : t322 = 0
     ·rw [if_pos c20] at H
      obtain ⟨c20b0, c20b1⟩ := zT1 c20
      clear c20
      obtain ⟨ji21, hji21⟩ : ∃ j_ : Int, (wrap64 ((x7_1.length : Int) - 1)) = j_ := ⟨_, rfl⟩
      replace H : (if 0 ≤ (ji21) then (if (ji21) < (x7_1.length : Int) then (if x7_1.length < 17592186044416 then (spec_l03Draw.l0 k1 (x7_1 ++ [rd x7_1 (ji21)]) (wrap64 (x8_1 - 1)) s0_0 t323 t324 a1_0 l1_1) else (none)) else (none)) else (none)) = some (r1, r2, r3) := by first | (rw [hji21] at H; exact H) | (simp only [hji21] at H ⊢; exact H)
      (try rw [hji21] at A19)
      have hji21w : (IntKind.i64.wrap ((x7_1.length : Int) - 1)) = ji21 := (i64_w _).trans hji21
      by_cases c22 : 0 ≤ (ji21)
      ·rw [if_pos c22] at H
       have c22b0 : decide (0 ≤ (ji21)) = true := decide_eq_true c22
       clear c22
       by_cases c23 : (ji21) < (x7_1.length : Int)
       ·rw [if_pos c23] at H
        have c23b0 : decide ((ji21) < (x7_1.length : Int)) = true := decide_eq_true c23
        clear c23
        by_cases c24 : x7_1.length < 17592186044416
        ·rw [if_pos c24] at H
         have LMc24 := zA c24
         clear c24
         obtain ⟨y326, hy326⟩ : ∃ y_ : List Int, y_ = (x7_1 ++ [rd x7_1 (ji21)]) := ⟨_, rfl⟩
         replace H : (spec_l03Draw.l0 k1 y326 (wrap64 (x8_1 - 1)) s0_0 t323 t324 a1_0 l1_1) = some (r1, r2, r3) := zy hy326 H
         have Ny326 := zA hy326
         clear hy326
         have H' := zA H
         clear H
         obtain ⟨Ao25, co25, eo25⟩ := kM HO_7.out
         subst eo25
         go_wp2_with (first | (go_at_call 51; (with_reducible refine (spec_l01Next.calls g s0_0 x1001_1 x1002_1 8 t322 t323 t324 w0 _ ?side1 ?side2 A19.out).mono ?_); (case side1 => exact Z98.uB HI0.out NB0_315.out); (case side2 => exact zV HB.out (Z98.ge HI0.out) GE315.out); rintro e w26 ⟨rfl, hi, hb, hk⟩; replace HO_7 := zA (zB9 (Z98.apart (show Z98 w0 _ g s0_0 x1001_1 x1002_1 from Z98.uB HI0.out NB0_315.out) (zP HO_7.out) (by decide)) hk); replace BK315 := zA (zB2 hk BK315.out NB315_0.out); replace HK := zA (kT (yB HK.out GW315.out) hk (.inl rfl)); replace HB := zA (hb); replace HI0 := zA (hi); (try clear hb); (try clear hk); (try clear hi); have p325 : 0 ≤ ((ji21) : Int) := zd; have q325 : (ji21) < (x7_1.length : Int) := zd; obtain ⟨ad325, e325, hx325_0⟩ := Kd.at_int (kB HO_7.out).2.2 (ji21) p325 q325; cases e325; replace p325 := eq_true p325; replace q325 := eq_true q325) | ((with_reducible refine gate_builtin (b := .append) (xs := #[.tmp 30, .tmp 37]) rfl ?_); at_builtin; refine Kd.R_append (Kd.int .i64) w.heap.size rfl (.tmp 30) (.tmp 37) 24 2 (.int .i64 0) 8 rfl Tryd.underlying24 info2 rfl (by decide) (by omega) (.slice (some ad325) x7_1.length co25) x7_1 (rd x7_1 (ji21)) [.int .i64 (rd x7_1 (ji21))] (fun _ => True) (fun _ => False) rfl rfl ?aP (fun _ hk => hk.elim) ?aF ?aO (kW _ _) ?aS ?aL ?_; (case aP => exact rfl); (case aF => exact (fun _ _ => trivial)); (case aO => exact (zP HO_7.out)); (case aS => exact (kX (w := w) (g := g) (row := none) (yB HK.out GW315.out))); (case aL => have := LMc24.out; omega); intro v327 w27 ho hb hg hat; rw [← Ny326.out] at ho; replace BK315 := zA (blk_grown (g := gb315) (o := .cells #[.int .i64 a1_0, .slice A1_1 l1_1.length c1_1] 26 (0, 0)) (zR BK315.out) hg (Kd.R_ne HO_7.out BK315.out (by decide))); replace HB := zA (below_weaken (zV HB.out (Z98.ge HI0.out) GE315.out) HL.out hb); replace HI0 := zA (Z98.grown (Z98.uB HI0.out NB0_315.out) hg (Z98.own_ne HI0.out HO_7.out (by decide))); replace HK := zA (kT (yB HK.out GW315.out) (KeepBut.of_grown hg g) (Kd.R_base2 HO_7.out)); have HO328 := zA (ho); clear HO_7; clear ho hb hg hat))
         go_roundg k1
         case measure => have := HK1.out; omega
         case rel => exact ⟨(y326), (wrap64 (x8_1 - 1)), (t323), (t324), zs, H', ⟨by have := HK1.out; omega⟩, ⟨zP HO328.out⟩, ⟨zR BK315.out⟩, ⟨Z98.uB HI0.out NB0_315.out⟩, ⟨yB HK.out GW315.out⟩, ⟨zV HB.out (Z98.ge HI0.out) GE315.out⟩⟩
        rw [if_neg c24] at H
        exact absurd H (by simp)
       rw [if_neg c23] at H
       exact absurd H (by simp)
      rw [if_neg c22] at H
      exact absurd H (by simp)
     rw [if_neg c20] at H
     obtain ⟨c20b0, c20b1⟩ := zT2 c20
     obtain ⟨⟨t329, t330, t331⟩, A28, H⟩ := zb H
     try dsimp only at H
     by_cases c29 : x7_1.length < 17592186044416
     ·rw [if_pos c29] at H
      have LMc29 := zA c29
      clear c29
      obtain ⟨y332, hy332⟩ : ∃ y_ : List Int, y_ = (x7_1 ++ [t329]) := ⟨_, rfl⟩
      replace H : (spec_l03Draw.l0 k1 y332 (wrap64 (x8_1 - 1)) s0_0 t330 t331 a1_0 l1_1) = some (r1, r2, r3) := zy hy332 H
      have Ny332 := zA hy332
      clear hy332
      have H' := zA H
      clear H
      obtain ⟨Ao30, co30, eo30⟩ := kM HO_7.out
      subst eo30
      go_wp2_with (first | (go_at_call 51; (with_reducible refine (spec_l01Next.calls g s0_0 x1001_1 x1002_1 8 t322 t323 t324 w0 _ ?side1 ?side2 A19.out).mono ?_); (case side1 => exact Z98.uB HI0.out NB0_315.out); (case side2 => exact zV HB.out (Z98.ge HI0.out) GE315.out); rintro e w31 ⟨rfl, hi, hb, hk⟩; replace HO_7 := zA (zB9 (Z98.apart (show Z98 w0 _ g s0_0 x1001_1 x1002_1 from Z98.uB HI0.out NB0_315.out) (zP HO_7.out) (by decide)) hk); replace BK315 := zA (zB2 hk BK315.out NB315_0.out); replace HK := zA (kT (yB HK.out GW315.out) hk (.inl rfl)); replace HB := zA (hb); replace HI0 := zA (hi); (try clear hb); (try clear hb2); (try clear hk); (try clear hi); (try clear hgw); have hnb32 := NB315_0.out; have hnc32 := NB0_315.out; obtain ⟨hcz33_0, hcz33_1, hfz33_0, hfz33_1⟩ := zB3 BK315.out) | (refine zO (some 43) Tryd.func51 #[.pointer (some ⟨g, 0, none⟩), .int .i64 a1_0] ?_; (with_reducible refine (spec_l01Next.calls g s0_0 t323 t324 a1_0 t329 t330 t331 w0 _ ?side1 ?side2 A28.out).mono ?_); (case side1 => exact Z98.uB HI0.out NB0_315.out); (case side2 => exact zV HB.out (Z98.ge HI0.out) GE315.out); rintro e w34 ⟨rfl, hi, hb, hk⟩; refine ⟨_, rfl, ?_⟩; replace HO_7 := zA (zB9 (Z98.apart (show Z98 w0 _ g s0_0 t323 t324 from Z98.uB HI0.out NB0_315.out) (zP HO_7.out) (by decide)) hk); replace BK315 := zA (zB2 hk BK315.out NB315_0.out); replace HK := zA (kT (yB HK.out GW315.out) hk (.inl rfl)); replace HB := zA (hb); replace HI0 := zA (hi); (try clear hb); (try clear hb2); (try clear hk); (try clear hi); (try clear hgw)) | ((with_reducible refine gate_builtin (b := .append) (xs := #[.tmp 39, .tmp 44]) rfl ?_); at_builtin; refine Kd.R_append (Kd.int .i64) w.heap.size rfl (.tmp 39) (.tmp 44) 24 2 (.int .i64 0) 8 rfl Tryd.underlying24 info2 rfl (by decide) (by omega) (.slice Ao30 x7_1.length co30) x7_1 t329 [.int .i64 t329] (fun _ => True) (fun _ => False) rfl rfl ?aP (fun _ hk => hk.elim) ?aF ?aO (kW _ _) ?aS ?aL ?_; (case aP => exact rfl); (case aF => exact (fun _ _ => trivial)); (case aO => exact (zP HO_7.out)); (case aS => exact (kX (w := w) (g := g) (row := none) (yB HK.out GW315.out))); (case aL => have := LMc29.out; omega); intro v333 w35 ho hb hg hat; rw [← Ny332.out] at ho; replace BK315 := zA (blk_grown (g := gb315) (o := .cells #[.int .i64 a1_0, .slice A1_1 l1_1.length c1_1] 26 (0, 0)) (zR BK315.out) hg (Kd.R_ne HO_7.out BK315.out (by decide))); replace HB := zA (below_weaken (zV HB.out (Z98.ge HI0.out) GE315.out) HL.out hb); replace HI0 := zA (Z98.grown (Z98.uB HI0.out NB0_315.out) hg (Z98.own_ne HI0.out HO_7.out (by decide))); replace HK := zA (kT (yB HK.out GW315.out) (KeepBut.of_grown hg g) (Kd.R_base2 HO_7.out)); have HO334 := zA (ho); clear HO_7; clear ho hb hg hat))
      go_roundg k1
      case measure => have := HK1.out; omega
      case rel => exact ⟨(y332), (wrap64 (x8_1 - 1)), (t330), (t331), zs, H', ⟨by have := HK1.out; omega⟩, ⟨zP HO334.out⟩, ⟨zR BK315.out⟩, ⟨Z98.uB HI0.out NB0_315.out⟩, ⟨yB HK.out GW315.out⟩, ⟨zV HB.out (Z98.ge HI0.out) GE315.out⟩⟩
     rw [if_neg c29] at H
     exact absurd H (by simp)
    rw [if_neg c18] at H
    have c18b0 : decide (0 < (x7_1.length : Int)) = false := decide_eq_false c18
    have c18b1 : decide (0 < x7_1.length) = false := decide_eq_false (by omega)
    clear c18
    obtain ⟨⟨t335, t336, t337⟩, A36, H⟩ := zb H
    try dsimp only at H
    by_cases c37 : x7_1.length < 17592186044416
    ·rw [if_pos c37] at H
     have LMc37 := zA c37
     clear c37
     obtain ⟨y338, hy338⟩ : ∃ y_ : List Int, y_ = (x7_1 ++ [t335]) := ⟨_, rfl⟩
     replace H : (spec_l03Draw.l0 k1 y338 (wrap64 (x8_1 - 1)) s0_0 t336 t337 a1_0 l1_1) = some (r1, r2, r3) := zy hy338 H
     have Ny338 := zA hy338
     clear hy338
     have H' := zA H
     clear H
     obtain ⟨Ao38, co38, eo38⟩ := kM HO_7.out
     subst eo38
     have hnb39 := NB315_0.out
     have hnc39 := NB0_315.out
     obtain ⟨hcz40_0, hcz40_1, hfz40_0, hfz40_1⟩ := zB3 BK315.out
     go_wp2_with (first | (refine zO (some 43) Tryd.func51 #[.pointer (some ⟨g, 0, none⟩), .int .i64 a1_0] ?_; (with_reducible refine (spec_l01Next.calls g s0_0 x1001_1 x1002_1 a1_0 t335 t336 t337 w0 _ ?side1 ?side2 A36.out).mono ?_); (case side1 => exact Z98.uB HI0.out NB0_315.out); (case side2 => exact zV HB.out (Z98.ge HI0.out) GE315.out); rintro e w41 ⟨rfl, hi, hb, hk⟩; refine ⟨_, rfl, ?_⟩; replace HO_7 := zA (zB9 (Z98.apart (show Z98 w0 _ g s0_0 x1001_1 x1002_1 from Z98.uB HI0.out NB0_315.out) (zP HO_7.out) (by decide)) hk); replace BK315 := zA (zB2 hk BK315.out NB315_0.out); replace HK := zA (kT (yB HK.out GW315.out) hk (.inl rfl)); replace HB := zA (hb); replace HI0 := zA (hi); (try clear hb); (try clear hk); (try clear hi)) | ((with_reducible refine gate_builtin (b := .append) (xs := #[.tmp 39, .tmp 44]) rfl ?_); at_builtin; refine Kd.R_append (Kd.int .i64) w.heap.size rfl (.tmp 39) (.tmp 44) 24 2 (.int .i64 0) 8 rfl Tryd.underlying24 info2 rfl (by decide) (by omega) (.slice Ao38 x7_1.length co38) x7_1 t335 [.int .i64 t335] (fun _ => True) (fun _ => False) rfl rfl ?aP (fun _ hk => hk.elim) ?aF ?aO (kW _ _) ?aS ?aL ?_; (case aP => exact rfl); (case aF => exact (fun _ _ => trivial)); (case aO => exact (zP HO_7.out)); (case aS => exact (kX (w := w) (g := g) (row := none) (yB HK.out GW315.out))); (case aL => have := LMc37.out; omega); intro v339 w42 ho hb hg hat; rw [← Ny338.out] at ho; replace BK315 := zA (blk_grown (g := gb315) (o := .cells #[.int .i64 a1_0, .slice A1_1 l1_1.length c1_1] 26 (0, 0)) (zR BK315.out) hg (Kd.R_ne HO_7.out BK315.out (by decide))); replace HB := zA (below_weaken (zV HB.out (Z98.ge HI0.out) GE315.out) HL.out hb); replace HI0 := zA (Z98.grown (Z98.uB HI0.out NB0_315.out) hg (Z98.own_ne HI0.out HO_7.out (by decide))); replace HK := zA (kT (yB HK.out GW315.out) (KeepBut.of_grown hg g) (Kd.R_base2 HO_7.out)); have HO340 := zA (ho); clear HO_7; clear ho hb hg hat))
     go_roundg k1
     case measure => have := HK1.out; omega
     case rel => exact ⟨(y338), (wrap64 (x8_1 - 1)), (t336), (t337), zs, H', ⟨by have := HK1.out; omega⟩, ⟨zP HO340.out⟩, ⟨zR BK315.out⟩, ⟨Z98.uB HI0.out NB0_315.out⟩, ⟨yB HK.out GW315.out⟩, ⟨zV HB.out (Z98.ge HI0.out) GE315.out⟩⟩
    rw [if_neg c37] at H
    exact absurd H (by simp)
   rw [if_neg c17] at H
   have c17b0 : decide (0 < x8_1) = false := decide_eq_false c17
   clear c17
   simp only [Option.some.injEq, Prod.mk.injEq] at H
   obtain ⟨rfl, rfl, rfl⟩ := H
   go_wp2
   go_ret
   exact ⟨_, zr, zP HO_7.out, by repeat (first | (with_reducible first | exact HI0.out | apply Z98.alloc | apply Z98.drewN | apply Z98.drew | apply Z98.set_1 | apply Z98.set_2 | refine Z98.far ?_ NB0_315.out _) | exact HI0.out), zV HB.out (Z98.ge HI0.out) GE315.out, by repeat (first | (with_reducible first | exact HK.out | apply KeepBut.set_ | apply keep_drewN | apply keep_drew | apply keep_alloc | refine keep_far ?_ GW315.out _) | exact HK.out)⟩

/-! ### spec_l03Spoil: function 89 -/
def spec_l03Spoil.l0 : Nat → List Int → List Int → Int → Int → Int → List Int → Option (List Int × Int × Int)
 | 0, _, _, _, _, _, _ => none
 | k + 1, x7, x1000, x1001, x1002, x342000, x342001 => if x342000 > 0 then (if (x7.length : Int) < 25 then ((spec_l01Next.f x1000 x1001 x1002 x342000).bind fun bt363 => (if x7.length < 17592186044416 then (spec_l03Spoil.l0 k (x7 ++ [bt363.1]) x1000 bt363.2.1 bt363.2.2 x342000 x342001) else (none))) else (some (x7, x1001, x1002))) else (some (x7, x1001, x1002))
def spec_l03Spoil.f (k : Nat) (s0_0 : List Int) (s0_1 : Int) (s0_2 : Int) (a1_0 : Int) (l1_1 : List Int) (a2 : Int) : Option (List Int × Int × Int) := (spec_l02Is.f k a1_0 l1_1).bind fun t342 => (if t342 = true then ((spec_l03Draw.f k s0_0 s0_1 s0_2 a1_0 l1_1 a2).bind fun bt346 => ((spec_l01Next.f s0_0 bt346.2.1 bt346.2.2 28).bind fun bt351 => (if bt351.1 = 0 then ((spec_l01Pick.f s0_0 bt351.2.1 bt351.2.2 (([(-1), a1_0, 1099511627776] : List Int))).bind fun bt357 => (if bt346.1.length < 17592186044416 then (some ((bt346.1 ++ [bt357.1]), bt357.2.1, bt357.2.2)) else (none))) else (if bt351.1 = 1 then (spec_l03Spoil.l0 k bt346.1 s0_0 bt351.2.1 bt351.2.2 a1_0 l1_1) else (some (bt346.1, bt351.2.1, bt351.2.2)))))) else (some ((([0, 1, 0] : List Int)), s0_1, s0_2)))

set_option maxHeartbeats 8000000 in
set_option maxRecDepth 100000 in
theorem spec_l03Spoil.calls (k : Nat) (g : Nat) (s0_0 : List Int) (s0_1 : Int) (s0_2 : Int) (a1_0 : Int) (A1_1 : Option Addr) (c1_1 : Nat) (l1_1 : List Int) (a2 : Int) (r1 : List Int) (r2 : Int) (r3 : Int) (w0 w : World) (hI : Z98 w0 w g s0_0 s0_1 s0_2) (hB : Below w0.heap.size w0 w) (hr1_1 : Kd.C (Kd.int .i64) w A1_1 l1_1.length l1_1) (hc1_1 : l1_1.length ≤ c1_1) (hf1_1 : ∀ ad, A1_1 = some ad → 0 < l1_1.length → ad.block ≠ g) (h : spec_l03Spoil.f k s0_0 s0_1 s0_2 a1_0 l1_1 a2 = some (r1, r2, r3)) :
  Calls Tryd.prog 89 #[.pointer (some ⟨g, 0, none⟩), .agg #[.int .i64 a1_0, .slice A1_1 l1_1.length c1_1], .int .i64 a2] w fun e w' => ∃ v0_ : Value, e = .returned (v0_) ∧ Kd.R (Kd.int .i64) 2 w' w.heap.size (fun _ => True) v0_ r1 ∧ Z98 w0 w' g s0_0 r2 r3 ∧ Below w0.heap.size w0 w' ∧ KeepBut w w' g none := by
 have hu26 := Tryd.underlying26
 have HR1_1 := zA hr1_1
 have HC1_1 := zA hc1_1
 clear hr1_1 hc1_1
 have HI0 := zA hI
 have HK := zA (KeepBut.refl w g none)
 have HL := zA hB.size
 clear hI
 have HW0 := zA hB.size
 have HB := zA hB
 clear hB
 have H := h
 unfold spec_l03Spoil.f at H
 clear h
 obtain ⟨t342, A4, H⟩ := zb H
 try dsimp only at H
 by_cases c5 : t342 = true
 ·subst c5
  rw [if_pos rfl] at H
  obtain ⟨⟨t346, t349, t350⟩, A6, H⟩ := zb H
  try dsimp only at H
  obtain ⟨⟨t351, t352, t353⟩, A7, H⟩ := zb H
  try dsimp only at H
  by_cases c8 : t351 = 0
  ·rw [if_pos c8] at H
   obtain ⟨c8b0, c8b1⟩ := zT1 c8
   clear c8
   obtain ⟨y354, hy354⟩ : ∃ y_ : List Int, y_ = (([(-1), a1_0, 1099511627776] : List Int)) := ⟨_, rfl⟩
   replace H : ((spec_l01Pick.f s0_0 t352 t353 y354).bind fun bt357 => (if t346.length < 17592186044416 then (some ((t346 ++ [bt357.1]), bt357.2.1, bt357.2.2)) else (none))) = some (r1, r2, r3) := zy hy354 H
   have Ny354 := zA hy354
   clear hy354
   obtain ⟨⟨t357, t358, t359⟩, A9, H⟩ := zb H
   try dsimp only at H
   by_cases c10 : t346.length < 17592186044416
   ·rw [if_pos c10] at H
    have LMc10 := zA c10
    clear c10
    obtain ⟨y360, hy360⟩ : ∃ y_ : List Int, y_ = (t346 ++ [t357]) := ⟨_, rfl⟩
    replace H : (some (y360, t358, t359)) = some (r1, r2, r3) := zy hy360 H
    have Ny360 := zA hy360
    clear hy360
    simp only [Option.some.injEq, Prod.mk.injEq] at H
    obtain ⟨rfl, rfl, rfl⟩ := H
    go_enter Tryd.func89, Tryd.ntmps89
    go_wp2_with (first | (refine zBE 4 #[.int .i64 a1_0, .slice A1_1 l1_1.length c1_1] 26 ?_; intro gb341 hg w11 hbox hb; replace HB := zA (kQ (zT HB.out (Z98.ge HI0.out)) hb); have BK341 := zA (hbox); have GW341 := zA (zB6 hg (kX (w := w) (g := g) (row := none) (yA HK.out)) : w.heap.size ≤ gb341); have GE341 := zA ((Nat.le_trans HW0.out (by rw [hg]; exact (kX (w := w) (g := g) (row := none) (yA HK.out)) : w.heap.size ≤ gb341) : w0.heap.size ≤ gb341)); replace HK := zA (kT (yA HK.out) (kU hb g none) (.inl rfl)); have NB0_341 := zA (zB7 hg (Z98.lt (show Z98 w0 _ g s0_0 s0_1 s0_2 from Z98.uA HI0.out)) : g ≠ gb341); have NB341_0 := zA (zB8 hg (Z98.lt (show Z98 w0 _ g s0_0 s0_1 s0_2 from Z98.uA HI0.out)) : gb341 ≠ g); replace HI0 := zA (Z98.below (Z98.uA HI0.out) hb); clear hb hbox hg; have hnb12 := NB341_0.out; have hnc12 := NB0_341.out; obtain ⟨hcz13_0, hcz13_1, hfz13_0, hfz13_1⟩ := zB3 BK341.out) | (refine zO (some 9) Tryd.func69 #[.agg #[.int .i64 a1_0, .slice A1_1 l1_1.length c1_1]] ?_; (with_reducible refine (spec_l02Is.calls k a1_0 _ _ l1_1 true _ ?side1 ?side2 A4.out).mono ?_); (case side1 => exact Kd.C_keep 0 HR1_1.out (yB HK.out GW341.out) hf1_1); (case side2 => exact HC1_1.out); rintro e w14 ⟨rfl, hb⟩; refine ⟨_, rfl, ?_⟩; replace BK341 := zA (zB1 BK341.out hb); replace HK := zA (kT (yB HK.out GW341.out) (kU hb g none) (.inl rfl)); replace HB := zA (kQ (zV HB.out (Z98.ge HI0.out) GE341.out) hb); replace HI0 := zA (Z98.below (Z98.uB HI0.out NB0_341.out) hb); (try clear hb); obtain ⟨hcz15_0, hcz15_1, hfz15_0, hfz15_1⟩ := zB3 BK341.out) | (refine zO (some 15) Tryd.func118 #[.pointer (some ⟨g, 0, none⟩), .agg #[.int .i64 a1_0, .slice A1_1 l1_1.length c1_1], .int .i64 a2] ?_; (with_reducible refine (spec_l03Draw.calls k g s0_0 s0_1 s0_2 a1_0 _ _ l1_1 a2 t346 t349 t350 w0 _ ?side1 ?side2 ?side3 ?side4 ?side5 A6.out).mono ?_); (case side1 => exact Z98.uB HI0.out NB0_341.out); (case side2 => exact zV HB.out (Z98.ge HI0.out) GE341.out); (case side3 => exact Kd.C_keep 0 HR1_1.out (yB HK.out GW341.out) hf1_1); (case side4 => exact HC1_1.out); (case side5 => exact hf1_1); rintro e w16 ⟨v347, rfl, ho0, hi, hb, hk⟩; refine ⟨_, rfl, ?_⟩; replace BK341 := zA (zB2 hk BK341.out NB341_0.out); have HO348 := zA (kI ho0 (kX (w := w) (g := g) (row := none) (yB HK.out GW341.out))); replace HK := zA (kT (yB HK.out GW341.out) hk (.inl rfl)); replace HB := zA (hb); replace HI0 := zA (hi); (try clear hb); (try clear hk); (try clear hi); (try clear ho0)) | (refine zO (some 17) Tryd.func51 #[.pointer (some ⟨g, 0, none⟩), .int .i64 28] ?_; (with_reducible refine (spec_l01Next.calls g s0_0 t349 t350 28 t351 t352 t353 w0 _ ?side1 ?side2 A7.out).mono ?_); (case side1 => exact Z98.uB HI0.out NB0_341.out); (case side2 => exact zV HB.out (Z98.ge HI0.out) GE341.out); rintro e w17 ⟨rfl, hi, hb, hk⟩; refine ⟨_, rfl, ?_⟩; replace BK341 := zA (zB2 hk BK341.out NB341_0.out); replace HO348 := zA (zB9 (Z98.apart (show Z98 w0 _ g s0_0 t349 t350 from Z98.uB HI0.out NB0_341.out) (zP HO348.out) (by decide)) hk); replace HK := zA (kT (yB HK.out GW341.out) hk (.inl rfl)); replace HB := zA (hb); replace HI0 := zA (hi); (try clear hb); (try clear hk); (try clear hi); obtain ⟨hcz18_0, hcz18_1, hfz18_0, hfz18_1⟩ := zB3 BK341.out) | ((with_reducible refine kS (N := 24) rfl ?_); refine Kd.R_lit (Kd.int .i64) _ 2 ?hg (N := 24) ?hd (xs := ([(-1), a1_0, 1099511627776] : List Int)) (inner := [.int .i64 (-1), .int .i64 a1_0, .int .i64 1099511627776]) (ok := fun _ => True) (okp := fun _ => True) ?hr ?hp (fun _ hk => hk) trivial (kW _ _) (Nat.le_refl _) (by simp) ?_; (case hd => rfl); (case hg => rfl); (case hr => first | (go_simp; done) | (go_simp; rfl)); (case hp => exact (Reps.one (show Kd.M (Kd.int .i64) _ _ _ (-1) [.int .i64 (-1)] from rfl) (Reps.one (show Kd.M (Kd.int .i64) _ _ _ a1_0 [.int .i64 a1_0] from rfl) (Reps.one (show Kd.M (Kd.int .i64) _ _ _ 1099511627776 [.int .i64 1099511627776] from rfl) (Reps.none _ _))))); intro v355 w19 ho20 hb hg_ hnew_; clear hg_ hnew_; (first | rw [← Ny354.out] at ho20 | (simp only [Int.reduceToNat] at ho20; rw [← Ny354.out] at ho20)); have HO356 := zA (kI (kF ho20 (kH (zP HO348.out))) (kX (w := w) (g := g) (row := none) (yB HK.out GW341.out))); replace HO348 := zA (kE (zP HO348.out) (kC ho20) hb); replace BK341 := zA (zB1 BK341.out hb); replace HK := zA (kT (yB HK.out GW341.out) (kU hb g none) (.inl rfl)); replace HB := zA (kQ (zV HB.out (Z98.ge HI0.out) GE341.out) hb); replace HI0 := zA (Z98.below (Z98.uB HI0.out NB0_341.out) hb); clear hb ho20; obtain ⟨Ao21, co21, eo21⟩ := kM HO356.out; subst eo21) | (refine zO (some 25) Tryd.func68 #[.pointer (some ⟨g, 0, none⟩), .slice Ao21 y354.length co21] ?_; (with_reducible refine (spec_l01Pick.calls g s0_0 t352 t353 _ _ y354 t357 t358 t359 w0 _ ?side1 ?side2 ?side3 ?side4 ?side5 A9.out).mono ?_); (case side1 => exact Z98.uB HI0.out NB0_341.out); (case side2 => exact zV HB.out (Z98.ge HI0.out) GE341.out); (case side3 => exact zS (kB HO356.out).2.2); (case side4 => exact (kB HO356.out).2.1); (case side5 => exact jJ (Z98.own_ne HI0.out HO356.out (by decide))); rintro e w22 ⟨rfl, hi, hb, hk⟩; refine ⟨_, rfl, ?_⟩; replace BK341 := zA (zB2 hk BK341.out NB341_0.out); replace HO348 := zA (zB9 (Z98.apart (show Z98 w0 _ g s0_0 t352 t353 from Z98.uB HI0.out NB0_341.out) (zP HO348.out) (by decide)) hk); replace HO356 := zA (zB9 (Z98.apart (show Z98 w0 _ g s0_0 t352 t353 from Z98.uB HI0.out NB0_341.out) (zP HO356.out) (by decide)) hk); replace HK := zA (kT (yB HK.out GW341.out) hk (.inl rfl)); replace HB := zA (hb); replace HI0 := zA (hi); (try clear hb); (try clear hk); (try clear hi)) | ((with_reducible refine gate_builtin (b := .append) (xs := #[.tmp 20, .tmp 26]) rfl ?_); at_builtin; refine Kd.R_append (Kd.int .i64) w.heap.size rfl (.tmp 20) (.tmp 26) 24 2 (.int .i64 0) 8 rfl Tryd.underlying24 info2 rfl (by decide) (by omega) v347 t346 t357 [.int .i64 t357] (fun k_ => some k_ ≠ (.slice Ao21 y354.length co21 : Value).ownBlock) (fun _ => False) rfl rfl ?aP (fun _ hk => hk.elim) ?aF ?aO (kW _ _) ?aS ?aL ?_; (case aP => exact rfl); (case aF => exact (fun k_ hk => jF (kH (zP HO356.out)) k_ hk)); (case aO => exact (by (with_reducible repeat (first | apply zF | apply zG | apply zH)); exact kA HO348.out (fun _ hk => hk.2))); (case aS => exact (kX (w := w) (g := g) (row := none) (yB HK.out GW341.out))); (case aL => have := LMc10.out; omega); intro v361 w23 ho hb hg hat; rw [← Ny360.out] at ho; replace BK341 := zA (blk_grown (g := gb341) (o := .cells #[.int .i64 a1_0, .slice A1_1 l1_1.length c1_1] 26 (0, 0)) (zR BK341.out) hg (Kd.R_ne HO348.out BK341.out (by decide))); replace HO356 := zA (Kd.R_after (ok := (fun _ => True)) (zP HO356.out) hg hat); replace HB := zA (below_weaken (zV HB.out (Z98.ge HI0.out) GE341.out) HL.out hb); replace HI0 := zA (Z98.grown (Z98.uB HI0.out NB0_341.out) hg (Z98.own_ne HI0.out HO348.out (by decide))); replace HK := zA (kT (yB HK.out GW341.out) (KeepBut.of_grown hg g) (Kd.R_base2 HO348.out)); have HO362 := zA (ho); clear HO348; clear ho hb hg hat))
    go_ret
    exact ⟨_, zr, by (with_reducible repeat (first | apply zF | apply zG | apply zH)); exact kA HO362.out (fun _ hk => trivial), by repeat (first | (with_reducible first | exact HI0.out | apply Z98.alloc | apply Z98.drewN | apply Z98.drew | apply Z98.set_1 | apply Z98.set_2 | refine Z98.far ?_ NB0_341.out _) | exact HI0.out), zV HB.out (Z98.ge HI0.out) GE341.out, by repeat (first | (with_reducible first | exact HK.out | apply KeepBut.set_ | apply keep_drewN | apply keep_drew | apply keep_alloc | refine keep_far ?_ GW341.out _) | exact HK.out)⟩
   rw [if_neg c10] at H
   exact absurd H (by simp)
  rw [if_neg c8] at H
  obtain ⟨c8b0, c8b1⟩ := zT2 c8
  by_cases c24 : t351 = 1
  ·rw [if_pos c24] at H
   obtain ⟨c24b0, c24b1⟩ := zT1 c24
   clear c24
   have H' := zA H
   clear H
   go_enter Tryd.func89, Tryd.ntmps89
   go_wp2_with (first | (refine zBE 4 #[.int .i64 a1_0, .slice A1_1 l1_1.length c1_1] 26 ?_; intro gb341 hg w25 hbox hb; replace HB := zA (kQ (zT HB.out (Z98.ge HI0.out)) hb); have BK341 := zA (hbox); have GW341 := zA (zB6 hg (kX (w := w) (g := g) (row := none) (yA HK.out)) : w.heap.size ≤ gb341); have GE341 := zA ((Nat.le_trans HW0.out (by rw [hg]; exact (kX (w := w) (g := g) (row := none) (yA HK.out)) : w.heap.size ≤ gb341) : w0.heap.size ≤ gb341)); replace HK := zA (kT (yA HK.out) (kU hb g none) (.inl rfl)); have NB0_341 := zA (zB7 hg (Z98.lt (show Z98 w0 _ g s0_0 s0_1 s0_2 from Z98.uA HI0.out)) : g ≠ gb341); have NB341_0 := zA (zB8 hg (Z98.lt (show Z98 w0 _ g s0_0 s0_1 s0_2 from Z98.uA HI0.out)) : gb341 ≠ g); replace HI0 := zA (Z98.below (Z98.uA HI0.out) hb); clear hb hbox hg; have hnb26 := NB341_0.out; have hnc26 := NB0_341.out; obtain ⟨hcz27_0, hcz27_1, hfz27_0, hfz27_1⟩ := zB3 BK341.out) | (refine zO (some 9) Tryd.func69 #[.agg #[.int .i64 a1_0, .slice A1_1 l1_1.length c1_1]] ?_; (with_reducible refine (spec_l02Is.calls k a1_0 _ _ l1_1 true _ ?side1 ?side2 A4.out).mono ?_); (case side1 => exact Kd.C_keep 0 HR1_1.out (yB HK.out GW341.out) hf1_1); (case side2 => exact HC1_1.out); rintro e w28 ⟨rfl, hb⟩; refine ⟨_, rfl, ?_⟩; replace BK341 := zA (zB1 BK341.out hb); replace HK := zA (kT (yB HK.out GW341.out) (kU hb g none) (.inl rfl)); replace HB := zA (kQ (zV HB.out (Z98.ge HI0.out) GE341.out) hb); replace HI0 := zA (Z98.below (Z98.uB HI0.out NB0_341.out) hb); (try clear hb); obtain ⟨hcz29_0, hcz29_1, hfz29_0, hfz29_1⟩ := zB3 BK341.out) | (refine zO (some 15) Tryd.func118 #[.pointer (some ⟨g, 0, none⟩), .agg #[.int .i64 a1_0, .slice A1_1 l1_1.length c1_1], .int .i64 a2] ?_; (with_reducible refine (spec_l03Draw.calls k g s0_0 s0_1 s0_2 a1_0 _ _ l1_1 a2 t346 t349 t350 w0 _ ?side1 ?side2 ?side3 ?side4 ?side5 A6.out).mono ?_); (case side1 => exact Z98.uB HI0.out NB0_341.out); (case side2 => exact zV HB.out (Z98.ge HI0.out) GE341.out); (case side3 => exact Kd.C_keep 0 HR1_1.out (yB HK.out GW341.out) hf1_1); (case side4 => exact HC1_1.out); (case side5 => exact hf1_1); rintro e w30 ⟨v347, rfl, ho0, hi, hb, hk⟩; refine ⟨_, rfl, ?_⟩; replace BK341 := zA (zB2 hk BK341.out NB341_0.out); have HO348 := zA (kI ho0 (kX (w := w) (g := g) (row := none) (yB HK.out GW341.out))); replace HK := zA (kT (yB HK.out GW341.out) hk (.inl rfl)); replace HB := zA (hb); replace HI0 := zA (hi); (try clear hb); (try clear hk); (try clear hi); (try clear ho0)) | (refine zO (some 17) Tryd.func51 #[.pointer (some ⟨g, 0, none⟩), .int .i64 28] ?_; (with_reducible refine (spec_l01Next.calls g s0_0 t349 t350 28 t351 t352 t353 w0 _ ?side1 ?side2 A7.out).mono ?_); (case side1 => exact Z98.uB HI0.out NB0_341.out); (case side2 => exact zV HB.out (Z98.ge HI0.out) GE341.out); rintro e w31 ⟨rfl, hi, hb, hk⟩; refine ⟨_, rfl, ?_⟩; replace BK341 := zA (zB2 hk BK341.out NB341_0.out); replace HO348 := zA (zB9 (Z98.apart (show Z98 w0 _ g s0_0 t349 t350 from Z98.uB HI0.out NB0_341.out) (zP HO348.out) (by decide)) hk); replace HK := zA (kT (yB HK.out GW341.out) hk (.inl rfl)); replace HB := zA (hb); replace HI0 := zA (hi); (try clear hb); (try clear hk); (try clear hi)))
   go_loopg [7] k (fun kq v7 w' => ∃ (x7_1 : List Int) (x1001_1 : Int) (x1002_1 : Int), Aside0 (spec_l03Spoil.l0 kq x7_1 s0_0 x1001_1 x1002_1 a1_0 l1_1 = some (r1, r2, r3)) ∧ Aside0 (kq ≤ k) ∧ Aside0 (Kd.R (Kd.int .i64) 2 w' w.heap.size (fun _ => True) v7 x7_1) ∧ Aside0 (w'.heap[gb341]? = some (.cells #[.int .i64 a1_0, (.slice A1_1 l1_1.length c1_1)] 26 (0, 0))) ∧ Aside0 (Z98 w0 w' g s0_0 x1001_1 x1002_1) ∧ Aside0 (KeepBut w w' g none) ∧ Aside0 (Below w0.heap.size w0 w'))
   case atStart => exact ⟨(t346), (t352), (t353), H', ⟨Nat.le_refl _⟩, ⟨zP HO348.out⟩, ⟨zR BK341.out⟩, ⟨Z98.uB HI0.out NB0_341.out⟩, ⟨yB HK.out GW341.out⟩, ⟨zV HB.out (Z98.ge HI0.out) GE341.out⟩⟩
   case round =>
    clear H'
    try clear c1
    try clear c2
    try clear c5
    try clear c6
    try clear c8
    try clear c10
    try clear c11
    try clear c12
    try clear c24
    try clear c26
    try clear hcz13_0
    try clear hcz13_1
    try clear hcz15_0
    try clear hcz15_1
    try clear hcz18_0
    try clear hcz18_1
    try clear hcz27_0
    try clear hcz27_1
    try clear hcz29_0
    try clear hcz29_1
    try clear hfz13_0
    try clear hfz13_1
    try clear hfz15_0
    try clear hfz15_1
    try clear hfz18_0
    try clear hfz18_1
    try clear hfz27_0
    try clear hfz27_1
    try clear hfz29_0
    try clear hfz29_1
    obtain ⟨x7_1, x1001_1, x1002_1, HA, HK1, HO_7, BK341, HI0, HK, HB⟩ := hrel
    cases gk with
    | zero => exact absurd HA.out (by simp [spec_l03Spoil.l0])
    | succ k1 =>
     have H := HA.out
     clear HA
     simp only [spec_l03Spoil.l0] at H
     by_cases c32 : a1_0 > 0
     ·rw [if_pos c32] at H
      have c32b0 : decide (0 < a1_0) = true := decide_eq_true c32
      clear c32
      by_cases c33 : (x7_1.length : Int) < 25
      ·rw [if_pos c33] at H
       have c33b0 : decide ((x7_1.length : Int) < 25) = true := decide_eq_true c33
       have c33b1 : decide (x7_1.length < 25) = true := decide_eq_true (by omega)
       clear c33
       obtain ⟨⟨t363, t364, t365⟩, A34, H⟩ := zb H
       try dsimp only at H
       by_cases c35 : x7_1.length < 17592186044416
       ·rw [if_pos c35] at H
        have LMc35 := zA c35
        clear c35
        obtain ⟨y366, hy366⟩ : ∃ y_ : List Int, y_ = (x7_1 ++ [t363]) := ⟨_, rfl⟩
        replace H : (spec_l03Spoil.l0 k1 y366 s0_0 t364 t365 a1_0 l1_1) = some (r1, r2, r3) := zy hy366 H
        have Ny366 := zA hy366
        clear hy366
        have H' := zA H
        clear H
        have hnb36 := NB341_0.out
        have hnc36 := NB0_341.out
        obtain ⟨hcz37_0, hcz37_1, hfz37_0, hfz37_1⟩ := zB3 BK341.out
        obtain ⟨Ao38, co38, eo38⟩ := kM HO_7.out
        subst eo38
        go_wp2_with (first | (refine zO (some 42) Tryd.func51 #[.pointer (some ⟨g, 0, none⟩), .int .i64 a1_0] ?_; (with_reducible refine (spec_l01Next.calls g s0_0 x1001_1 x1002_1 a1_0 t363 t364 t365 w0 _ ?side1 ?side2 A34.out).mono ?_); (case side1 => exact Z98.uB HI0.out NB0_341.out); (case side2 => exact zV HB.out (Z98.ge HI0.out) GE341.out); rintro e w39 ⟨rfl, hi, hb, hk⟩; refine ⟨_, rfl, ?_⟩; replace HO_7 := zA (zB9 (Z98.apart (show Z98 w0 _ g s0_0 x1001_1 x1002_1 from Z98.uB HI0.out NB0_341.out) (zP HO_7.out) (by decide)) hk); replace BK341 := zA (zB2 hk BK341.out NB341_0.out); replace HK := zA (kT (yB HK.out GW341.out) hk (.inl rfl)); replace HB := zA (hb); replace HI0 := zA (hi); (try clear hb); (try clear hk); (try clear hi)) | ((with_reducible refine gate_builtin (b := .append) (xs := #[.tmp 38, .tmp 43]) rfl ?_); at_builtin; refine Kd.R_append (Kd.int .i64) w.heap.size rfl (.tmp 38) (.tmp 43) 24 2 (.int .i64 0) 8 rfl Tryd.underlying24 info2 rfl (by decide) (by omega) (.slice Ao38 x7_1.length co38) x7_1 t363 [.int .i64 t363] (fun _ => True) (fun _ => False) rfl rfl ?aP (fun _ hk => hk.elim) ?aF ?aO (kW _ _) ?aS ?aL ?_; (case aP => exact rfl); (case aF => exact (fun _ _ => trivial)); (case aO => exact (zP HO_7.out)); (case aS => exact (kX (w := w) (g := g) (row := none) (yB HK.out GW341.out))); (case aL => have := LMc35.out; omega); intro v367 w40 ho hb hg hat; rw [← Ny366.out] at ho; replace BK341 := zA (blk_grown (g := gb341) (o := .cells #[.int .i64 a1_0, .slice A1_1 l1_1.length c1_1] 26 (0, 0)) (zR BK341.out) hg (Kd.R_ne HO_7.out BK341.out (by decide))); replace HB := zA (below_weaken (zV HB.out (Z98.ge HI0.out) GE341.out) HL.out hb); replace HI0 := zA (Z98.grown (Z98.uB HI0.out NB0_341.out) hg (Z98.own_ne HI0.out HO_7.out (by decide))); replace HK := zA (kT (yB HK.out GW341.out) (KeepBut.of_grown hg g) (Kd.R_base2 HO_7.out)); have HO368 := zA (ho); clear HO_7; clear ho hb hg hat))
        go_roundg k1
        case measure => have := HK1.out; omega
        case rel => exact ⟨(y366), (t364), (t365), H', ⟨by have := HK1.out; omega⟩, ⟨zP HO368.out⟩, ⟨zR BK341.out⟩, ⟨Z98.uB HI0.out NB0_341.out⟩, ⟨yB HK.out GW341.out⟩, ⟨zV HB.out (Z98.ge HI0.out) GE341.out⟩⟩
       rw [if_neg c35] at H
       exact absurd H (by simp)
      rw [if_neg c33] at H
      have c33b0 : decide ((x7_1.length : Int) < 25) = false := decide_eq_false c33
      have c33b1 : decide (x7_1.length < 25) = false := decide_eq_false (by omega)
      clear c33
      simp only [Option.some.injEq, Prod.mk.injEq] at H
      obtain ⟨rfl, rfl, rfl⟩ := H
      have hnb41 := NB341_0.out
      have hnc41 := NB0_341.out
      obtain ⟨hcz42_0, hcz42_1, hfz42_0, hfz42_1⟩ := zB3 BK341.out
      obtain ⟨Ao43, co43, eo43⟩ := kM HO_7.out
      subst eo43
      go_wp2
      go_ret
      exact ⟨_, zr, zP HO_7.out, by repeat (first | (with_reducible first | exact HI0.out | apply Z98.alloc | apply Z98.drewN | apply Z98.drew | apply Z98.set_1 | apply Z98.set_2 | refine Z98.far ?_ NB0_341.out _) | exact HI0.out), zV HB.out (Z98.ge HI0.out) GE341.out, by repeat (first | (with_reducible first | exact HK.out | apply KeepBut.set_ | apply keep_drewN | apply keep_drew | apply keep_alloc | refine keep_far ?_ GW341.out _) | exact HK.out)⟩
     rw [if_neg c32] at H
     have c32b0 : decide (0 < a1_0) = false := decide_eq_false c32
     clear c32
     simp only [Option.some.injEq, Prod.mk.injEq] at H
     obtain ⟨rfl, rfl, rfl⟩ := H
     have hnb44 := NB341_0.out
     have hnc44 := NB0_341.out
     obtain ⟨hcz45_0, hcz45_1, hfz45_0, hfz45_1⟩ := zB3 BK341.out
     go_wp2
     go_ret
     exact ⟨_, zr, zP HO_7.out, by repeat (first | (with_reducible first | exact HI0.out | apply Z98.alloc | apply Z98.drewN | apply Z98.drew | apply Z98.set_1 | apply Z98.set_2 | refine Z98.far ?_ NB0_341.out _) | exact HI0.out), zV HB.out (Z98.ge HI0.out) GE341.out, by repeat (first | (with_reducible first | exact HK.out | apply KeepBut.set_ | apply keep_drewN | apply keep_drew | apply keep_alloc | refine keep_far ?_ GW341.out _) | exact HK.out)⟩
  rw [if_neg c24] at H
  obtain ⟨c24b0, c24b1⟩ := zT2 c24
  simp only [Option.some.injEq, Prod.mk.injEq] at H
  obtain ⟨rfl, rfl, rfl⟩ := H
  go_enter Tryd.func89, Tryd.ntmps89
  go_wp2_with (first | (refine zBE 4 #[.int .i64 a1_0, .slice A1_1 l1_1.length c1_1] 26 ?_; intro gb341 hg w46 hbox hb; replace HB := zA (kQ (zT HB.out (Z98.ge HI0.out)) hb); have BK341 := zA (hbox); have GW341 := zA (zB6 hg (kX (w := w) (g := g) (row := none) (yA HK.out)) : w.heap.size ≤ gb341); have GE341 := zA ((Nat.le_trans HW0.out (by rw [hg]; exact (kX (w := w) (g := g) (row := none) (yA HK.out)) : w.heap.size ≤ gb341) : w0.heap.size ≤ gb341)); replace HK := zA (kT (yA HK.out) (kU hb g none) (.inl rfl)); have NB0_341 := zA (zB7 hg (Z98.lt (show Z98 w0 _ g s0_0 s0_1 s0_2 from Z98.uA HI0.out)) : g ≠ gb341); have NB341_0 := zA (zB8 hg (Z98.lt (show Z98 w0 _ g s0_0 s0_1 s0_2 from Z98.uA HI0.out)) : gb341 ≠ g); replace HI0 := zA (Z98.below (Z98.uA HI0.out) hb); clear hb hbox hg; have hnb47 := NB341_0.out; have hnc47 := NB0_341.out; obtain ⟨hcz48_0, hcz48_1, hfz48_0, hfz48_1⟩ := zB3 BK341.out) | (refine zO (some 9) Tryd.func69 #[.agg #[.int .i64 a1_0, .slice A1_1 l1_1.length c1_1]] ?_; (with_reducible refine (spec_l02Is.calls k a1_0 _ _ l1_1 true _ ?side1 ?side2 A4.out).mono ?_); (case side1 => exact Kd.C_keep 0 HR1_1.out (yB HK.out GW341.out) hf1_1); (case side2 => exact HC1_1.out); rintro e w49 ⟨rfl, hb⟩; refine ⟨_, rfl, ?_⟩; replace BK341 := zA (zB1 BK341.out hb); replace HK := zA (kT (yB HK.out GW341.out) (kU hb g none) (.inl rfl)); replace HB := zA (kQ (zV HB.out (Z98.ge HI0.out) GE341.out) hb); replace HI0 := zA (Z98.below (Z98.uB HI0.out NB0_341.out) hb); (try clear hb); obtain ⟨hcz50_0, hcz50_1, hfz50_0, hfz50_1⟩ := zB3 BK341.out) | (refine zO (some 15) Tryd.func118 #[.pointer (some ⟨g, 0, none⟩), .agg #[.int .i64 a1_0, .slice A1_1 l1_1.length c1_1], .int .i64 a2] ?_; (with_reducible refine (spec_l03Draw.calls k g s0_0 s0_1 s0_2 a1_0 _ _ l1_1 a2 t346 t349 t350 w0 _ ?side1 ?side2 ?side3 ?side4 ?side5 A6.out).mono ?_); (case side1 => exact Z98.uB HI0.out NB0_341.out); (case side2 => exact zV HB.out (Z98.ge HI0.out) GE341.out); (case side3 => exact Kd.C_keep 0 HR1_1.out (yB HK.out GW341.out) hf1_1); (case side4 => exact HC1_1.out); (case side5 => exact hf1_1); rintro e w51 ⟨v347, rfl, ho0, hi, hb, hk⟩; refine ⟨_, rfl, ?_⟩; replace BK341 := zA (zB2 hk BK341.out NB341_0.out); have HO348 := zA (kI ho0 (kX (w := w) (g := g) (row := none) (yB HK.out GW341.out))); replace HK := zA (kT (yB HK.out GW341.out) hk (.inl rfl)); replace HB := zA (hb); replace HI0 := zA (hi); (try clear hb); (try clear hk); (try clear hi); (try clear ho0)) | (refine zO (some 17) Tryd.func51 #[.pointer (some ⟨g, 0, none⟩), .int .i64 28] ?_; (with_reducible refine (spec_l01Next.calls g s0_0 t349 t350 28 t351 t352 t353 w0 _ ?side1 ?side2 A7.out).mono ?_); (case side1 => exact Z98.uB HI0.out NB0_341.out); (case side2 => exact zV HB.out (Z98.ge HI0.out) GE341.out); rintro e w52 ⟨rfl, hi, hb, hk⟩; refine ⟨_, rfl, ?_⟩; replace BK341 := zA (zB2 hk BK341.out NB341_0.out); replace HO348 := zA (zB9 (Z98.apart (show Z98 w0 _ g s0_0 t349 t350 from Z98.uB HI0.out NB0_341.out) (zP HO348.out) (by decide)) hk); replace HK := zA (kT (yB HK.out GW341.out) hk (.inl rfl)); replace HB := zA (hb); replace HI0 := zA (hi); (try clear hb); (try clear hk); (try clear hi)))
  go_ret
  exact ⟨_, zr, zP HO348.out, by repeat (first | (with_reducible first | exact HI0.out | apply Z98.alloc | apply Z98.drewN | apply Z98.drew | apply Z98.set_1 | apply Z98.set_2 | refine Z98.far ?_ NB0_341.out _) | exact HI0.out), zV HB.out (Z98.ge HI0.out) GE341.out, by repeat (first | (with_reducible first | exact HK.out | apply KeepBut.set_ | apply keep_drewN | apply keep_drew | apply keep_alloc | refine keep_far ?_ GW341.out _) | exact HK.out)⟩
 replace c5 := Bool.eq_false_iff.mpr c5
 subst c5
 rw [if_neg (show ¬ (false = true) by decide)] at H
 obtain ⟨y343, hy343⟩ : ∃ y_ : List Int, y_ = (([0, 1, 0] : List Int)) := ⟨_, rfl⟩
 replace H : (some (y343, s0_1, s0_2)) = some (r1, r2, r3) := zy hy343 H
 have Ny343 := zA hy343
 clear hy343
 simp only [Option.some.injEq, Prod.mk.injEq] at H
 obtain ⟨rfl, rfl, rfl⟩ := H
 go_enter Tryd.func89, Tryd.ntmps89
 go_wp2_with (first | (refine zBE 4 #[.int .i64 a1_0, .slice A1_1 l1_1.length c1_1] 26 ?_; intro gb341 hg w53 hbox hb; replace HB := zA (kQ (zT HB.out (Z98.ge HI0.out)) hb); have BK341 := zA (hbox); have GW341 := zA (zB6 hg (kX (w := w) (g := g) (row := none) (yA HK.out)) : w.heap.size ≤ gb341); have GE341 := zA ((Nat.le_trans HW0.out (by rw [hg]; exact (kX (w := w) (g := g) (row := none) (yA HK.out)) : w.heap.size ≤ gb341) : w0.heap.size ≤ gb341)); replace HK := zA (kT (yA HK.out) (kU hb g none) (.inl rfl)); have NB0_341 := zA (zB7 hg (Z98.lt (show Z98 w0 _ g s0_0 s0_1 s0_2 from Z98.uA HI0.out)) : g ≠ gb341); have NB341_0 := zA (zB8 hg (Z98.lt (show Z98 w0 _ g s0_0 s0_1 s0_2 from Z98.uA HI0.out)) : gb341 ≠ g); replace HI0 := zA (Z98.below (Z98.uA HI0.out) hb); clear hb hbox hg; have hnb54 := NB341_0.out; have hnc54 := NB0_341.out; obtain ⟨hcz55_0, hcz55_1, hfz55_0, hfz55_1⟩ := zB3 BK341.out) | (refine zO (some 9) Tryd.func69 #[.agg #[.int .i64 a1_0, .slice A1_1 l1_1.length c1_1]] ?_; (with_reducible refine (spec_l02Is.calls k a1_0 _ _ l1_1 false _ ?side1 ?side2 A4.out).mono ?_); (case side1 => exact Kd.C_keep 0 HR1_1.out (yB HK.out GW341.out) hf1_1); (case side2 => exact HC1_1.out); rintro e w56 ⟨rfl, hb⟩; refine ⟨_, rfl, ?_⟩; replace BK341 := zA (zB1 BK341.out hb); replace HK := zA (kT (yB HK.out GW341.out) (kU hb g none) (.inl rfl)); replace HB := zA (kQ (zV HB.out (Z98.ge HI0.out) GE341.out) hb); replace HI0 := zA (Z98.below (Z98.uB HI0.out NB0_341.out) hb); (try clear hb)) | ((with_reducible refine kS (N := 11) rfl ?_); refine Kd.R_lit (Kd.int .i64) _ 2 ?hg (N := 11) ?hd (xs := ([0, 1, 0] : List Int)) (inner := [.int .i64 0, .int .i64 1, .int .i64 0]) (ok := fun _ => True) (okp := fun _ => True) ?hr ?hp (fun _ hk => hk) trivial (kW _ _) (Nat.le_refl _) (by simp) ?_; (case hd => rfl); (case hg => rfl); (case hr => first | (go_simp; done) | (go_simp; rfl)); (case hp => exact (Reps.one (show Kd.M (Kd.int .i64) _ _ _ 0 [.int .i64 0] from rfl) (Reps.one (show Kd.M (Kd.int .i64) _ _ _ 1 [.int .i64 1] from rfl) (Reps.one (show Kd.M (Kd.int .i64) _ _ _ 0 [.int .i64 0] from rfl) (Reps.none _ _))))); intro v344 w57 ho58 hb hg_ hnew_; clear hg_ hnew_; (first | rw [← Ny343.out] at ho58 | (simp only [Int.reduceToNat] at ho58; rw [← Ny343.out] at ho58)); have HO345 := zA (kI ho58 (kX (w := w) (g := g) (row := none) (yB HK.out GW341.out))); replace BK341 := zA (zB1 BK341.out hb); replace HK := zA (kT (yB HK.out GW341.out) (kU hb g none) (.inl rfl)); replace HB := zA (kQ (zV HB.out (Z98.ge HI0.out) GE341.out) hb); replace HI0 := zA (Z98.below (Z98.uB HI0.out NB0_341.out) hb); clear hb ho58))
 go_ret
 exact ⟨_, zr, zP HO345.out, by repeat (first | (with_reducible first | exact HI0.out | apply Z98.alloc | apply Z98.drewN | apply Z98.drew | apply Z98.set_1 | apply Z98.set_2 | refine Z98.far ?_ NB0_341.out _) | exact HI0.out), zV HB.out (Z98.ge HI0.out) GE341.out, by repeat (first | (with_reducible first | exact HK.out | apply KeepBut.set_ | apply keep_drewN | apply keep_drew | apply keep_alloc | refine keep_far ?_ GW341.out _) | exact HK.out)⟩

/-! ### spec_l03Pair: function 48 -/
def spec_l03Pair.f (k : Nat) (l0 : List Int) (a1 : Int) (a2 : Int) : Option (List Int × Int × Int × Int × List Int × List Int) := (spec_l01From.f k l0).bind fun bt370 => ((spec_l02Draw.f k bt370.1 bt370.2.1 bt370.2.2 a1).bind fun bt374 => ((spec_l01Next.f bt370.1 bt374.2.2.1 bt374.2.2.2 24).bind fun bt381 => (if bt381.1 = 0 then ((spec_l02Spoil.f k bt370.1 bt381.2.1 bt381.2.2 a1).bind fun bt384 => ((spec_l03Spoil.f k bt370.1 bt384.2.2.1 bt384.2.2.2 bt384.1 bt384.2.1 a2).bind fun bt390 => (some (bt370.1, bt390.2.1, bt390.2.2, bt384.1, bt384.2.1, bt390.1)))) else ((spec_l03Spoil.f k bt370.1 bt381.2.1 bt381.2.2 bt374.1 bt374.2.1 a2).bind fun bt395 => (some (bt370.1, bt395.2.1, bt395.2.2, bt374.1, bt374.2.1, bt395.1))))))

def spec_l03Pair.T5 : Bool × List (List Nat × List Nat) := (true, [([], []), ([], []), ([], []), ([], []), ([], []), ([2, 3, 4], [2, 3, 4]), ([0, 5, 0], [0]), ([1, 6, 0, 1, 6], [1]), ([5, 7, 0, 1, 2, 3, 4, 5, 6, 7], [5])])
def spec_l03Pair.B5 : List Nat := [0, 0, 0, 0, 0, 28, 61, 127, 255]
theorem spec_l03Pair.tab5 : rtab .any (opsOf Tryd.f48 5) = spec_l03Pair.T5 := by kernel_rfl
theorem spec_l03Pair.bits5 : waitsOk spec_l03Pair.T5.2 spec_l03Pair.B5 = true := by kernel_rfl
set_option maxHeartbeats 8000000 in
set_option maxRecDepth 100000 in
theorem spec_l03Pair.calls (k : Nat) (A0 : Option Addr) (c0 : Nat) (l0 : List Int) (a1 : Int) (a2 : Int) (r1 : List Int) (r2 : Int) (r3 : Int) (r4 : Int) (r5 : List Int) (r6 : List Int) (w0 w : World) (hB : Below w0.heap.size w0 w) (hr0 : Kd.C (Kd.int .u8) w0 A0 l0.length l0) (hc0 : l0.length ≤ c0) (h : spec_l03Pair.f k l0 a1 a2 = some (r1, r2, r3, r4, r5, r6)) :
  Calls Tryd.prog 48 #[.slice A0 l0.length c0, .int .i64 a1, .int .i64 a2] w fun e w' => ∃ v1_ v2_ : Value, ∃ g_ : Nat, e = .returned (.tuple #[.pointer (some ⟨g_, 0, none⟩), .agg #[.int .i64 r4, v1_], v2_]) ∧ Kd.R (Kd.int .i64) 2 w' w.heap.size (fun k_ => some k_ ≠ (v2_ : Value).ownBlock) v1_ r5 ∧ Kd.R (Kd.int .i64) 2 w' w.heap.size (fun k_ => some k_ ≠ (v1_ : Value).ownBlock) v2_ r6 ∧ Z98 w0 w' g_ r1 r2 r3 ∧ Below w0.heap.size w0 w' ∧ Below w.heap.size w w' ∧ w.heap.size ≤ g_ := by
 have hu26 := Tryd.underlying26
 have HR0 := zA hr0
 have HC0 := zA hc0
 clear hr0 hc0
 have HBW := zA (kW w.heap.size w)
 have HB00 := zA hB
 have HW0 := zA hB.size
 have HB := zA hB
 clear hB
 have H := h
 unfold spec_l03Pair.f at H
 clear h
 obtain ⟨⟨t370, t371, t372⟩, A4, H⟩ := zb H
 try dsimp only at H
 obtain ⟨⟨t374, t375, t378, t379⟩, A5, H⟩ := zb H
 try dsimp only at H
 obtain ⟨⟨t381, t382, t383⟩, A6, H⟩ := zb H
 try dsimp only at H
 by_cases c7 : t381 = 0
 ·rw [if_pos c7] at H
  obtain ⟨c7b0, c7b1⟩ := zT1 c7
  clear c7
  obtain ⟨⟨t384, t385, t388, t389⟩, A8, H⟩ := zb H
  try dsimp only at H
  obtain ⟨⟨t390, t393, t394⟩, A9, H⟩ := zb H
  try dsimp only at H
  simp only [Option.some.injEq, Prod.mk.injEq] at H
  obtain ⟨rfl, rfl, rfl, rfl, rfl, rfl⟩ := H
  go_enter Tryd.func48, Tryd.ntmps48
  try go_wp2_with (first | (refine zBE 7 #[.int .i64 0, .slice none 0 0] 26 ?_; intro gb369 hg w10 hbox hb; replace HB := zA (kQ (zQ HB.out) hb); have BK369 := zA (hbox); have GW369 := zA (zBH hg HBW.out); have GE369 := zA ((Nat.le_trans HW0.out (by rw [hg]; exact (kP (zQ HBW.out)) : w.heap.size ≤ gb369) : w0.heap.size ≤ gb369)); replace HBW := zA (kQ HBW.out hb); clear hb hbox hg) | (refine zO (some 12) Tryd.func44 #[.slice A0 l0.length c0] ?_; (with_reducible refine (spec_l01From.calls k _ _ l0 t370 t371 t372 w0 _ ?side1 ?side2 ?side3 A4.out).mono ?_); (case side1 => exact zT HB.out GE369.out); (case side2 => exact HR0.out); (case side3 => exact HC0.out); rintro e w11 ⟨g373, rfl, hi, hb, hb2, hgw⟩; refine ⟨_, rfl, ?_⟩; have GWS373 := zA ((Nat.le_trans (kP (zT HBW.out GW369.out)) hgw : w.heap.size ≤ g373)); replace HBW := zA (kQ (zT HBW.out GW369.out) hb2); replace HB := zA (hb); have HI373 := zA (hi); have NB373_369 := zA (Z98.ne_blk hi (blk_below (g := gb369) (o := .cells #[.int .i64 0, .slice none 0 0] 26 (0, 0)) (zR BK369.out) hb2) (by decide)); have NB369_373 := zA (Ne.symm (Z98.ne_blk hi (blk_below (g := gb369) (o := .cells #[.int .i64 0, .slice none 0 0] 26 (0, 0)) (zR BK369.out) hb2) (by decide))); replace BK369 := zA (zB1 BK369.out hb2); (try clear hb); (try clear hb2); (try clear hi); (try clear hgw)) | (refine zO (some 15) Tryd.func83 #[.pointer (some ⟨g373, 0, none⟩), .int .i64 a1] ?_; (with_reducible refine (spec_l02Draw.calls k g373 t370 t371 t372 a1 t374 t375 t378 t379 w0 _ ?side1 ?side2 A5.out).mono ?_); (case side1 => exact Z98.uB HI373.out NB373_369.out); (case side2 => exact zV HB.out (Z98.ge HI373.out) GE369.out); rintro e w12 ⟨v376, rfl, ho0, hi, hb, hk⟩; refine ⟨_, rfl, ?_⟩; replace BK369 := zA (zB2 hk BK369.out NB369_373.out); have HO377 := zA (kI ho0 (kP (zV HBW.out GWS373.out GW369.out))); replace HBW := zA (Z98.below_keepW HB00.out (zV HBW.out GWS373.out GW369.out) hk hb GWS373.out); replace HB := zA (hb); replace HI373 := zA (hi); (try clear hb); (try clear hk); (try clear hi); (try clear ho0)) | (refine zBE 10 #[.int .i64 0, .slice none 0 0] 26 ?_; intro gb380 hg w13 hbox hb; replace HO377 := zA (kL (zP HO377.out) hb); replace HB := zA (kQ (zV HB.out (Z98.ge HI373.out) GE369.out) hb); have BK380 := zA (hbox); have GW380 := zA (zB6 hg (kP (zV HBW.out GWS373.out GW369.out)) : w.heap.size ≤ gb380); have GE380 := zA ((Nat.le_trans HW0.out (by rw [hg]; exact (kP (zV HBW.out GWS373.out GW369.out)) : w.heap.size ≤ gb380) : w0.heap.size ≤ gb380)); replace HBW := zA (kQ HBW.out hb); have NB369_380 := zA (zB4 hg BK369.out : gb369 ≠ gb380); have NB380_369 := zA (zB5 hg BK369.out : gb380 ≠ gb369); replace BK369 := zA (zB1 BK369.out hb); have NB373_380 := zA (zB7 hg (Z98.lt (show Z98 w0 _ g373 t370 t378 t379 from Z98.uB HI373.out NB373_369.out)) : g373 ≠ gb380); have NB380_373 := zA (zB8 hg (Z98.lt (show Z98 w0 _ g373 t370 t378 t379 from Z98.uB HI373.out NB373_369.out)) : gb380 ≠ g373); replace HI373 := zA (Z98.below (Z98.uB HI373.out NB373_369.out) hb); clear hb hbox hg; have hnb14 := NB380_369.out; have hnc14 := NB369_380.out; have hnb15 := NB380_373.out; have hnc15 := NB373_380.out; obtain ⟨hcz16_0, hcz16_1, hfz16_0, hfz16_1⟩ := zB3 BK380.out; obtain ⟨Ao17, co17, eo17⟩ := kM HO377.out; subst eo17) | (refine zO (some 17) Tryd.func51 #[.pointer (some ⟨g373, 0, none⟩), .int .i64 24] ?_; (with_reducible refine (spec_l01Next.calls g373 t370 t378 t379 24 t381 t382 t383 w0 _ ?side1 ?side2 A6.out).mono ?_); (case side1 => exact Z98.uC HI373.out NB373_369.out NB373_380.out); (case side2 => exact zW HB.out (Z98.ge HI373.out) GE369.out GE380.out); rintro e w18 ⟨rfl, hi, hb, hk⟩; refine ⟨_, rfl, ?_⟩; replace BK369 := zA (KeepBut.blk hk (g' := gb369) (o := .cells #[.int .i64 0, .slice none 0 0] 26 (0, 0)) (zBG BK369.out NB369_380.out NB369_380.out) NB369_373.out (by simp)); replace HO377 := zA (kA (Kd.R_keep (Z98.apart (show Z98 w0 _ g373 t370 t378 t379 from Z98.uC HI373.out NB373_369.out NB373_380.out) (zP (zFG HO377.out BK380.out (.int .i64 t374) (.slice Ao17 t375.length co17))) (by decide)) hk (fun _ h => h.2)) (fun _ h => h.1)); replace BK380 := zA (KeepBut.blk hk (g' := gb380) (o := .cells #[.int .i64 t374, .slice Ao17 t375.length co17] 26 (0, 0)) (zRP BK380.out) NB380_373.out (by simp)); replace HBW := zA (Z98.below_keepW HB00.out (zW HBW.out GWS373.out GW369.out GW380.out) hk hb GWS373.out); replace HB := zA (hb); replace HI373 := zA (hi); (try clear hb); (try clear hk); (try clear hi)) | (refine zO (some 21) Tryd.func45 #[.pointer (some ⟨g373, 0, none⟩), .int .i64 a1] ?_; (with_reducible refine (spec_l02Spoil.calls k g373 t370 t382 t383 a1 t384 t385 t388 t389 w0 _ ?side1 ?side2 A8.out).mono ?_); (case side1 => exact Z98.uC HI373.out NB373_369.out NB373_380.out); (case side2 => exact zW HB.out (Z98.ge HI373.out) GE369.out GE380.out); rintro e w19 ⟨v386, rfl, ho0, hi, hb, hk⟩; refine ⟨_, rfl, ?_⟩; replace BK369 := zA (zB2 hk BK369.out NB369_373.out); replace BK380 := zA (zB2 hk BK380.out NB380_373.out); have HO387 := zA (kI (kF ho0 (kH (zP HO377.out))) (kP (zW HBW.out GWS373.out GW369.out GW380.out))); replace HO377 := zA (kA (Kd.R_told (Kd.R_oldK (Z98.apart (show Z98 w0 _ g373 t370 t382 t383 from Z98.uC HI373.out NB373_369.out NB373_380.out) (zP HO377.out) (by decide)) hk) (kC ho0)) (fun _ h_ => h_.1)); replace HBW := zA (Z98.below_keepW HB00.out (zW HBW.out GWS373.out GW369.out GW380.out) hk hb GWS373.out); replace HB := zA (hb); replace HI373 := zA (hi); (try clear hb); (try clear hk); (try clear hi); (try clear ho0); obtain ⟨hcz20_0, hcz20_1, hfz20_0, hfz20_1⟩ := zB3 BK380.out; obtain ⟨Ao21, co21, eo21⟩ := kM HO387.out; subst eo21))
  have n0_ : Aside0 (Kd.R (Kd.int .i64) 2 ((w19.setCell ⟨gb380, 0, none⟩ (.int .i64 t384)).setCell ⟨gb380, 1, none⟩ (.slice Ao21 t385.length co21)) w.heap.size (fun k_ => some k_ ≠ (.slice Ao21 t385.length co21 : Value).ownBlock) (.slice Ao17 t375.length co17) t375) := ⟨by (with_reducible repeat (first | apply zF | apply zG | apply zH)); exact kA (kY (p := ⟨gb380, 1, none⟩) (kY (p := ⟨gb380, 0, none⟩) (kD HO377.out BK380.out (by decide)) (fun _ hk => hk.2) (.int .i64 t384)) (fun _ hk => hk.2) (.slice Ao21 t385.length co21)) (fun _ hk => hk.1.2)⟩
  have n1_ : Aside0 (Kd.R (Kd.int .i64) 2 ((w19.setCell ⟨gb380, 0, none⟩ (.int .i64 t384)).setCell ⟨gb380, 1, none⟩ (.slice Ao21 t385.length co21)) w.heap.size (fun k_ => some k_ ≠ (.slice Ao17 t375.length co17 : Value).ownBlock) (.slice Ao21 t385.length co21) t385) := ⟨by (with_reducible repeat (first | apply zF | apply zG | apply zH)); exact kA (kY (p := ⟨gb380, 1, none⟩) (kY (p := ⟨gb380, 0, none⟩) (kD HO387.out BK380.out (by decide)) (fun _ hk => hk.2) (.int .i64 t384)) (fun _ hk => hk.2) (.slice Ao21 t385.length co21)) (fun _ hk => hk.1.2)⟩
  have n2_ : Aside0 (((w19.setCell ⟨gb380, 0, none⟩ (.int .i64 t384)).setCell ⟨gb380, 1, none⟩ (.slice Ao21 t385.length co21)).heap[gb369]? = some (.cells #[.int .i64 0, .slice none 0 0] 26 (0, 0))) := ⟨by (with_reducible repeat (first | refine zJ ?_ _ | refine zK ?_ | refine zI ?_ _)); refine blk_far ?_ NB369_380.out _; (with_reducible repeat (first | refine zJ ?_ _ | refine zK ?_ | refine zI ?_ _)); refine blk_far ?_ NB369_380.out _; (with_reducible repeat (first | refine zJ ?_ _ | refine zK ?_ | refine zI ?_ _)); exact BK369.out⟩
  have n3_ : Aside0 (((w19.setCell ⟨gb380, 0, none⟩ (.int .i64 t384)).setCell ⟨gb380, 1, none⟩ (.slice Ao21 t385.length co21)).heap[gb380]? = some (.cells #[.int .i64 t384, .slice Ao21 t385.length co21] 26 (0, 0))) := ⟨by (with_reducible repeat (first | refine zJ ?_ _ | refine zK ?_ | refine zI ?_ _)); refine blk_put (cs := #[.int .i64 t384, .slice Ao17 t375.length co17]) ?_ 1 _ rfl; (with_reducible repeat (first | refine zJ ?_ _ | refine zK ?_ | refine zI ?_ _)); refine blk_put (cs := #[.int .i64 t374, .slice Ao17 t375.length co17]) ?_ 0 _ rfl; (with_reducible repeat (first | refine zJ ?_ _ | refine zK ?_ | refine zI ?_ _)); exact BK380.out⟩
  have n4_ : Aside0 (Z98 w0 ((w19.setCell ⟨gb380, 0, none⟩ (.int .i64 t384)).setCell ⟨gb380, 1, none⟩ (.slice Ao21 t385.length co21)) g373 t370 t388 t389) := ⟨Z98.uC HI373.out NB373_369.out NB373_380.out⟩
  have n5_ : Aside0 (Below w0.heap.size w0 ((w19.setCell ⟨gb380, 0, none⟩ (.int .i64 t384)).setCell ⟨gb380, 1, none⟩ (.slice Ao21 t385.length co21))) := ⟨zW HB.out (Z98.ge HI373.out) GE369.out GE380.out⟩
  have n5w_ : Aside0 (Below w.heap.size w ((w19.setCell ⟨gb380, 0, none⟩ (.int .i64 t384)).setCell ⟨gb380, 1, none⟩ (.slice Ao21 t385.length co21))) := ⟨zW HBW.out GWS373.out GW369.out GW380.out⟩
  (try clear HO377)
  (try clear HO387)
  (try clear BK369)
  (try clear BK380)
  (try clear HI373)
  (try clear HB HBW)
  generalize ((w19.setCell ⟨gb380, 0, none⟩ (.int .i64 t384)).setCell ⟨gb380, 1, none⟩ (.slice Ao21 t385.length co21)) = w22 at n0_ n1_ n2_ n3_ n4_ n5_ n5w_ ⊢
  have HO377 := n0_
  have HO387 := n1_
  have BK369 := n2_
  have BK380 := n3_
  have HI373 := n4_
  have HB := n5_
  have HBW := n5w_
  clear n0_ n1_ n2_ n3_ n4_ n5_
  have n0_ := zA (zH HO377.out)
  have n1_ := zA (zH HO387.out)
  have n2_ := zA (zK BK369.out)
  have n3_ := zA (zK BK380.out)
  have n4_ := zA (Z98.drew HI373.out)
  have n5_ := zA (zD HB.out)
  have n5w_ := zA (zD HBW.out)
  clear HO377 HO387 BK369 BK380 HI373 HB HBW
  have HO377 := n0_
  have HO387 := n1_
  have BK369 := n2_
  have BK380 := n3_
  have HI373 := n4_
  have HB := n5_
  have HBW := n5w_
  clear n0_ n1_ n2_ n3_ n4_ n5_
  refine start_ (n := 9) (S := fun w' => w'.cell? ⟨gb380, 0, none⟩ = some (.int .i64 t384) ∧ w'.cell? ⟨gb380, 1, none⟩ = some (.slice Ao21 t385.length co21)) (ds := []) #[false, false, false, false, false, false, false, false, false] (by kernel_rfl) rfl rfl ⟨(kV BK380.out 0).trans rfl, (kV BK380.out 1).trans rfl⟩ (fun hHeld => ?_); refine with_tabW spec_l03Pair.tab5 spec_l03Pair.bits5 (fun HT_ HW_ => ?_)
  generalize w22.drew = w23 at HO377 HO387 BK369 BK380 HI373 HB HBW hHeld ⊢
  refine zp 0 (some 22) #[true, false, false, false, false, false, false, false, false] HT_.out ?_
  refine zp 2 (some 24) #[true, false, true, false, false, false, false, false, false] HT_.out ?_
  refine zp 4 (some 26) #[true, false, true, false, true, false, false, false, false] HT_.out ?_
  refine zc 1 (some 23) #[true, true, true, false, true, false, false, false, false] HT_.out HW_.out hHeld ?_
  refine zc 3 (some 25) #[true, true, true, true, true, false, false, false, false] HT_.out HW_.out hHeld ?_
  refine one_ (i := 5) (N := some 27) #[true, true, true, true, true, true, false, false, false] rfl rfl (one_of HT_.out (by kernel_rfl)) (by decide) (fun K hK => ?_)
  refine goes_ Tryd.func89 (by kernel_rfl) rfl #[.pointer (some ⟨g373, 0, none⟩), .agg #[.int .i64 t384, .slice Ao21 t385.length co21], .int .i64 a2] (by rfl) rfl rfl zg ?_
  with_reducible refine (spec_l03Spoil.calls k g373 t370 t388 t389 t384 _ _ t385 a2 t390 t393 t394 w0 _ ?side1 ?side2 ?side3 ?side4 ?side5 A9.out).mono ?_
  (case side1 => exact Z98.uC HI373.out NB373_369.out NB373_380.out)
  (case side2 => exact zW HB.out (Z98.ge HI373.out) GE369.out GE380.out)
  (case side3 => exact zS (kB HO387.out).2.2)
  (case side4 => exact (kB HO387.out).2.1)
  (case side5 => exact jJ (Z98.own_ne HI373.out HO387.out (by decide)))
  rintro e w24 ⟨v391, rfl, ho0, hi, hb, hk⟩
  refine ⟨_, rfl, ?_⟩
  replace BK369 := zA (zB2 hk BK369.out NB369_373.out)
  replace BK380 := zA (zB2 hk BK380.out NB380_373.out)
  have HO392 := zA (kI (kF (kF ho0 (kH (zP HO377.out))) (kH (zP HO387.out))) (kP (zW HBW.out GWS373.out GW369.out GW380.out)))
  replace HO377 := zA (kA (Kd.R_told (Kd.R_oldK (Z98.apart (show Z98 w0 _ g373 t370 t388 t389 from Z98.uC HI373.out NB373_369.out NB373_380.out) (zP HO377.out) (by decide)) hk) (kC ho0)) (fun _ h_ => h_.1))
  replace HO387 := zA (kA (Kd.R_told (Kd.R_oldK (Z98.apart (show Z98 w0 _ g373 t370 t388 t389 from Z98.uC HI373.out NB373_369.out NB373_380.out) (zP HO387.out) (by decide)) hk) (kC ho0)) (fun _ h_ => h_.1))
  replace HBW := zA (Z98.below_keepW HB00.out (zW HBW.out GWS373.out GW369.out GW380.out) hk hb GWS373.out)
  replace HB := zA (hb)
  replace HI373 := zA (hi)
  (try clear hb)
  (try clear hb2)
  (try clear hk)
  (try clear hi)
  (try clear hgw)
  (try clear ho0)
  refine hK.out _ _ ⟨(kV BK380.out 0).trans rfl, (kV BK380.out 1).trans rfl⟩ (fun hHeld => ?_)
  clear hK K
  refine norm_ (a' := ?_) ?_ ?_
  rotate_left
  ·show Act.put _ (some 27) _ = _
   simp only [Act.put, zL, zM, zN, i64_w, i32_w]
   rfl
  refine zp 6 (some 6) #[true, true, true, true, true, true, true, false, false] HT_.out ?_
  refine one_ (i := 7) (N := none) #[true, true, true, true, true, true, true, true, false] rfl rfl (one_of HT_.out (by kernel_rfl)) (by decide) (fun K hK => ?_)
  have hs25 : w24.cell? ⟨gb369, 0, none⟩ = some (.int .i64 0) := (kV BK369.out 0).trans rfl
  have hfs25 := jH BK369.out 0
  have hns25_1 := NB380_369.out
  have hms25_1 := NB369_380.out
  have hs26 : w24.cell? ⟨gb369, 1, none⟩ = some (.slice none 0 0) := (kV BK369.out 1).trans rfl
  have hfs26 := jH BK369.out 1
  have hns26_1 := NB380_369.out
  have hms26_1 := NB369_380.out
  refine skip_ (w1 := ?_) (by rfl) rfl ?_ ?_
  rotate_left
  ·go_simp
   rfl
  refine hK.out _ _ ⟨((cell_far (p := ⟨gb369, _, none⟩) NB380_369.out _).trans (((cell_far (p := ⟨gb369, _, none⟩) NB380_369.out _).trans (hHeld.1)))), ((cell_far (p := ⟨gb369, _, none⟩) NB380_369.out _).trans (((cell_far (p := ⟨gb369, _, none⟩) NB380_369.out _).trans (hHeld.2))))⟩ (fun hHeld => ?_)
  clear hK K
  refine zp 8 (some 8) #[true, true, true, true, true, true, true, true, true] HT_.out ?_
  refine done_ (done_of HT_.out (by kernel_rfl)) ?_
  try go_wp2
  refine bodyPost_ret (results_list (rs := [.tmp 6, .cell 7 26, .tmp 8]) rfl (by simp) (.tmp (.cell gb369 26 #[.int .i64 t384, .slice Ao21 t385.length co21] (0, 0) _ rfl (zRP BK369.out) Tryd.underlying26 rfl (by kernel_rfl) (.tmp .nil)))) rfl ?_
  exact ⟨_, _, _, zr, by (with_reducible repeat (first | apply zF | apply zG | apply zH)); exact kA (kY (p := ⟨gb369, 1, none⟩) (kY (p := ⟨gb369, 0, none⟩) (kD HO387.out BK369.out (by decide)) (fun _ hk => hk.2) (.int .i64 t384)) (fun _ hk => hk.2) (.slice Ao21 t385.length co21)) (fun _ hk => hk.1.2), by (with_reducible repeat (first | apply zF | apply zG | apply zH)); exact kA (kY (p := ⟨gb369, 1, none⟩) (kY (p := ⟨gb369, 0, none⟩) (kD HO392.out BK369.out (by decide)) (fun _ hk => hk.2) (.int .i64 t384)) (fun _ hk => hk.2) (.slice Ao21 t385.length co21)) (fun _ hk => hk.1.2), (show Z98 w0 _ g373 t370 t393 t394 from Z98.uC HI373.out NB373_369.out NB373_380.out), zW HB.out (Z98.ge HI373.out) GE369.out GE380.out, zW HBW.out GWS373.out GW369.out GW380.out, GWS373.out⟩
 rw [if_neg c7] at H
 obtain ⟨c7b0, c7b1⟩ := zT2 c7
 obtain ⟨⟨t395, t398, t399⟩, A27, H⟩ := zb H
 try dsimp only at H
 simp only [Option.some.injEq, Prod.mk.injEq] at H
 obtain ⟨rfl, rfl, rfl, rfl, rfl, rfl⟩ := H
 go_enter Tryd.func48, Tryd.ntmps48
 try go_wp2_with (first | (refine zBE 7 #[.int .i64 0, .slice none 0 0] 26 ?_; intro gb369 hg w28 hbox hb; replace HB := zA (kQ (zQ HB.out) hb); have BK369 := zA (hbox); have GW369 := zA (zBH hg HBW.out); have GE369 := zA ((Nat.le_trans HW0.out (by rw [hg]; exact (kP (zQ HBW.out)) : w.heap.size ≤ gb369) : w0.heap.size ≤ gb369)); replace HBW := zA (kQ HBW.out hb); clear hb hbox hg) | (refine zO (some 12) Tryd.func44 #[.slice A0 l0.length c0] ?_; (with_reducible refine (spec_l01From.calls k _ _ l0 t370 t371 t372 w0 _ ?side1 ?side2 ?side3 A4.out).mono ?_); (case side1 => exact zT HB.out GE369.out); (case side2 => exact HR0.out); (case side3 => exact HC0.out); rintro e w29 ⟨g373, rfl, hi, hb, hb2, hgw⟩; refine ⟨_, rfl, ?_⟩; have GWS373 := zA ((Nat.le_trans (kP (zT HBW.out GW369.out)) hgw : w.heap.size ≤ g373)); replace HBW := zA (kQ (zT HBW.out GW369.out) hb2); replace HB := zA (hb); have HI373 := zA (hi); have NB373_369 := zA (Z98.ne_blk hi (blk_below (g := gb369) (o := .cells #[.int .i64 0, .slice none 0 0] 26 (0, 0)) (zR BK369.out) hb2) (by decide)); have NB369_373 := zA (Ne.symm (Z98.ne_blk hi (blk_below (g := gb369) (o := .cells #[.int .i64 0, .slice none 0 0] 26 (0, 0)) (zR BK369.out) hb2) (by decide))); replace BK369 := zA (zB1 BK369.out hb2); (try clear hb); (try clear hb2); (try clear hi); (try clear hgw)) | (refine zO (some 15) Tryd.func83 #[.pointer (some ⟨g373, 0, none⟩), .int .i64 a1] ?_; (with_reducible refine (spec_l02Draw.calls k g373 t370 t371 t372 a1 t374 t375 t378 t379 w0 _ ?side1 ?side2 A5.out).mono ?_); (case side1 => exact Z98.uB HI373.out NB373_369.out); (case side2 => exact zV HB.out (Z98.ge HI373.out) GE369.out); rintro e w30 ⟨v376, rfl, ho0, hi, hb, hk⟩; refine ⟨_, rfl, ?_⟩; replace BK369 := zA (zB2 hk BK369.out NB369_373.out); have HO377 := zA (kI ho0 (kP (zV HBW.out GWS373.out GW369.out))); replace HBW := zA (Z98.below_keepW HB00.out (zV HBW.out GWS373.out GW369.out) hk hb GWS373.out); replace HB := zA (hb); replace HI373 := zA (hi); (try clear hb); (try clear hk); (try clear hi); (try clear ho0)) | (refine zBE 10 #[.int .i64 0, .slice none 0 0] 26 ?_; intro gb380 hg w31 hbox hb; replace HO377 := zA (kL (zP HO377.out) hb); replace HB := zA (kQ (zV HB.out (Z98.ge HI373.out) GE369.out) hb); have BK380 := zA (hbox); have GW380 := zA (zB6 hg (kP (zV HBW.out GWS373.out GW369.out)) : w.heap.size ≤ gb380); have GE380 := zA ((Nat.le_trans HW0.out (by rw [hg]; exact (kP (zV HBW.out GWS373.out GW369.out)) : w.heap.size ≤ gb380) : w0.heap.size ≤ gb380)); replace HBW := zA (kQ HBW.out hb); have NB369_380 := zA (zB4 hg BK369.out : gb369 ≠ gb380); have NB380_369 := zA (zB5 hg BK369.out : gb380 ≠ gb369); replace BK369 := zA (zB1 BK369.out hb); have NB373_380 := zA (zB7 hg (Z98.lt (show Z98 w0 _ g373 t370 t378 t379 from Z98.uB HI373.out NB373_369.out)) : g373 ≠ gb380); have NB380_373 := zA (zB8 hg (Z98.lt (show Z98 w0 _ g373 t370 t378 t379 from Z98.uB HI373.out NB373_369.out)) : gb380 ≠ g373); replace HI373 := zA (Z98.below (Z98.uB HI373.out NB373_369.out) hb); clear hb hbox hg; have hnb32 := NB380_369.out; have hnc32 := NB369_380.out; have hnb33 := NB380_373.out; have hnc33 := NB373_380.out; obtain ⟨hcz34_0, hcz34_1, hfz34_0, hfz34_1⟩ := zB3 BK380.out; obtain ⟨Ao35, co35, eo35⟩ := kM HO377.out; subst eo35) | (refine zO (some 17) Tryd.func51 #[.pointer (some ⟨g373, 0, none⟩), .int .i64 24] ?_; (with_reducible refine (spec_l01Next.calls g373 t370 t378 t379 24 t381 t382 t383 w0 _ ?side1 ?side2 A6.out).mono ?_); (case side1 => exact Z98.uC HI373.out NB373_369.out NB373_380.out); (case side2 => exact zW HB.out (Z98.ge HI373.out) GE369.out GE380.out); rintro e w36 ⟨rfl, hi, hb, hk⟩; refine ⟨_, rfl, ?_⟩; replace BK369 := zA (KeepBut.blk hk (g' := gb369) (o := .cells #[.int .i64 0, .slice none 0 0] 26 (0, 0)) (zBG BK369.out NB369_380.out NB369_380.out) NB369_373.out (by simp)); replace HO377 := zA (kA (Kd.R_keep (Z98.apart (show Z98 w0 _ g373 t370 t378 t379 from Z98.uC HI373.out NB373_369.out NB373_380.out) (zP (zFG HO377.out BK380.out (.int .i64 t374) (.slice Ao35 t375.length co35))) (by decide)) hk (fun _ h => h.2)) (fun _ h => h.1)); replace BK380 := zA (KeepBut.blk hk (g' := gb380) (o := .cells #[.int .i64 t374, .slice Ao35 t375.length co35] 26 (0, 0)) (zRP BK380.out) NB380_373.out (by simp)); replace HBW := zA (Z98.below_keepW HB00.out (zW HBW.out GWS373.out GW369.out GW380.out) hk hb GWS373.out); replace HB := zA (hb); replace HI373 := zA (hi); (try clear hb); (try clear hk); (try clear hi)))
 have n0_ := zA (zH HO377.out)
 have n1_ := zA (zK BK369.out)
 have n2_ := zA (zK BK380.out)
 have n3_ := zA (Z98.drew HI373.out)
 have n4_ := zA (zD HB.out)
 have n4w_ := zA (zD HBW.out)
 clear HO377 BK369 BK380 HI373 HB HBW
 have HO377 := n0_
 have BK369 := n1_
 have BK380 := n2_
 have HI373 := n3_
 have HB := n4_
 have HBW := n4w_
 clear n0_ n1_ n2_ n3_ n4_
 refine start_ (n := 9) (S := fun w' => w'.cell? ⟨gb380, 0, none⟩ = some (.int .i64 t374) ∧ w'.cell? ⟨gb380, 1, none⟩ = some (.slice Ao35 t375.length co35)) (ds := []) #[false, false, false, false, false, false, false, false, false] (by kernel_rfl) rfl rfl ⟨(kV BK380.out 0).trans rfl, (kV BK380.out 1).trans rfl⟩ (fun hHeld => ?_); refine with_tabW spec_l03Pair.tab5 spec_l03Pair.bits5 (fun HT_ HW_ => ?_)
 generalize w36.drew = w37 at HO377 BK369 BK380 HI373 HB HBW hHeld ⊢
 refine zp 0 (some 22) #[true, false, false, false, false, false, false, false, false] HT_.out ?_
 refine zp 2 (some 24) #[true, false, true, false, false, false, false, false, false] HT_.out ?_
 refine zp 4 (some 26) #[true, false, true, false, true, false, false, false, false] HT_.out ?_
 refine zc 1 (some 23) #[true, true, true, false, true, false, false, false, false] HT_.out HW_.out hHeld ?_
 refine zc 3 (some 25) #[true, true, true, true, true, false, false, false, false] HT_.out HW_.out hHeld ?_
 refine one_ (i := 5) (N := some 27) #[true, true, true, true, true, true, false, false, false] rfl rfl (one_of HT_.out (by kernel_rfl)) (by decide) (fun K hK => ?_)
 refine goes_ Tryd.func89 (by kernel_rfl) rfl #[.pointer (some ⟨g373, 0, none⟩), .agg #[.int .i64 t374, .slice Ao35 t375.length co35], .int .i64 a2] (by rfl) rfl rfl zg ?_
 with_reducible refine (spec_l03Spoil.calls k g373 t370 t382 t383 t374 _ _ t375 a2 t395 t398 t399 w0 _ ?side1 ?side2 ?side3 ?side4 ?side5 A27.out).mono ?_
 (case side1 => exact Z98.uC HI373.out NB373_369.out NB373_380.out)
 (case side2 => exact zW HB.out (Z98.ge HI373.out) GE369.out GE380.out)
 (case side3 => exact zS (kB HO377.out).2.2)
 (case side4 => exact (kB HO377.out).2.1)
 (case side5 => exact jJ (Z98.own_ne HI373.out HO377.out (by decide)))
 rintro e w38 ⟨v396, rfl, ho0, hi, hb, hk⟩
 refine ⟨_, rfl, ?_⟩
 replace BK369 := zA (zB2 hk BK369.out NB369_373.out)
 replace BK380 := zA (zB2 hk BK380.out NB380_373.out)
 have HO397 := zA (kI (kF ho0 (kH (zP HO377.out))) (kP (zW HBW.out GWS373.out GW369.out GW380.out)))
 replace HO377 := zA (kA (Kd.R_told (Kd.R_oldK (Z98.apart (show Z98 w0 _ g373 t370 t382 t383 from Z98.uC HI373.out NB373_369.out NB373_380.out) (zP HO377.out) (by decide)) hk) (kC ho0)) (fun _ h_ => h_.1))
 replace HBW := zA (Z98.below_keepW HB00.out (zW HBW.out GWS373.out GW369.out GW380.out) hk hb GWS373.out)
 replace HB := zA (hb)
 replace HI373 := zA (hi)
 (try clear hb)
 (try clear hb2)
 (try clear hk)
 (try clear hi)
 (try clear hgw)
 (try clear ho0)
 refine hK.out _ _ ⟨(kV BK380.out 0).trans rfl, (kV BK380.out 1).trans rfl⟩ (fun hHeld => ?_)
 clear hK K
 refine norm_ (a' := ?_) ?_ ?_
 rotate_left
 ·show Act.put _ (some 27) _ = _
  simp only [Act.put, zL, zM, zN, i64_w, i32_w]
  rfl
 refine zp 6 (some 6) #[true, true, true, true, true, true, true, false, false] HT_.out ?_
 refine one_ (i := 7) (N := none) #[true, true, true, true, true, true, true, true, false] rfl rfl (one_of HT_.out (by kernel_rfl)) (by decide) (fun K hK => ?_)
 have hs39 : w38.cell? ⟨gb369, 0, none⟩ = some (.int .i64 0) := (kV BK369.out 0).trans rfl
 have hfs39 := jH BK369.out 0
 have hns39_1 := NB380_369.out
 have hms39_1 := NB369_380.out
 have hs40 : w38.cell? ⟨gb369, 1, none⟩ = some (.slice none 0 0) := (kV BK369.out 1).trans rfl
 have hfs40 := jH BK369.out 1
 have hns40_1 := NB380_369.out
 have hms40_1 := NB369_380.out
 refine skip_ (w1 := ?_) (by rfl) rfl ?_ ?_
 rotate_left
 ·go_simp
  rfl
 refine hK.out _ _ ⟨((cell_far (p := ⟨gb369, _, none⟩) NB380_369.out _).trans (((cell_far (p := ⟨gb369, _, none⟩) NB380_369.out _).trans (hHeld.1)))), ((cell_far (p := ⟨gb369, _, none⟩) NB380_369.out _).trans (((cell_far (p := ⟨gb369, _, none⟩) NB380_369.out _).trans (hHeld.2))))⟩ (fun hHeld => ?_)
 clear hK K
 refine zp 8 (some 8) #[true, true, true, true, true, true, true, true, true] HT_.out ?_
 refine done_ (done_of HT_.out (by kernel_rfl)) ?_
 try go_wp2
 refine bodyPost_ret (results_list (rs := [.tmp 6, .cell 7 26, .tmp 8]) rfl (by simp) (.tmp (.cell gb369 26 #[.int .i64 t374, .slice Ao35 t375.length co35] (0, 0) _ rfl (zRP BK369.out) Tryd.underlying26 rfl (by kernel_rfl) (.tmp .nil)))) rfl ?_
 exact ⟨_, _, _, zr, by (with_reducible repeat (first | apply zF | apply zG | apply zH)); exact kA (kY (p := ⟨gb369, 1, none⟩) (kY (p := ⟨gb369, 0, none⟩) (kD HO377.out BK369.out (by decide)) (fun _ hk => hk.2) (.int .i64 t374)) (fun _ hk => hk.2) (.slice Ao35 t375.length co35)) (fun _ hk => hk.1.2), by (with_reducible repeat (first | apply zF | apply zG | apply zH)); exact kA (kY (p := ⟨gb369, 1, none⟩) (kY (p := ⟨gb369, 0, none⟩) (kD HO397.out BK369.out (by decide)) (fun _ hk => hk.2) (.int .i64 t374)) (fun _ hk => hk.2) (.slice Ao35 t375.length co35)) (fun _ hk => hk.1.2), (show Z98 w0 _ g373 t370 t398 t399 from Z98.uC HI373.out NB373_369.out NB373_380.out), zW HB.out (Z98.ge HI373.out) GE369.out GE380.out, zW HBW.out GWS373.out GW369.out GW380.out, GWS373.out⟩

/-! ### spec_DrawTraceComponents: function 29 -/
def spec_DrawTraceComponents.f (k : Nat) (l0 : List Int) : Option (Int × List Int × List Int) := (spec_l03Pair.f k l0 8 24).bind fun bt401 => (some (bt401.2.2.2.1, bt401.2.2.2.2.1, bt401.2.2.2.2.2))

set_option maxHeartbeats 8000000 in
set_option maxRecDepth 100000 in
theorem spec_DrawTraceComponents.calls (k : Nat) (A0 : Option Addr) (c0 : Nat) (l0 : List Int) (r1 : Int) (r2 : List Int) (r3 : List Int) (w : World) (hr0 : Kd.C (Kd.int .u8) w A0 l0.length l0) (hc0 : l0.length ≤ c0) (h : spec_DrawTraceComponents.f k l0 = some (r1, r2, r3)) :
  Calls Tryd.prog 29 #[.slice A0 l0.length c0] w fun e w' => ∃ v1_ v2_ : Value, e = .returned (.tuple #[.agg #[.int .i64 r1, v1_], v2_]) ∧ Kd.R (Kd.int .i64) 2 w' w.heap.size (fun k_ => some k_ ≠ (v2_ : Value).ownBlock) v1_ r2 ∧ Kd.R (Kd.int .i64) 2 w' w.heap.size (fun k_ => some k_ ≠ (v1_ : Value).ownBlock) v2_ r3 ∧ Below w.heap.size w w' := by
 have hu26 := Tryd.underlying26
 have HR0 := zA hr0
 have HC0 := zA hc0
 clear hr0 hc0
 have HB := zA (kW w.heap.size w)
 have H := h
 unfold spec_DrawTraceComponents.f at H
 clear h
 obtain ⟨⟨t401, t402, t403, t405, t406, t409⟩, A2, H⟩ := zb H
 try dsimp only at H
 simp only [Option.some.injEq, Prod.mk.injEq] at H
 obtain ⟨rfl, rfl, rfl⟩ := H
 go_enter Tryd.func29, Tryd.ntmps29
 go_wp2_with (first | (refine zBE 2 #[.int .i64 0, .slice none 0 0] 26 ?_; intro gb400 hg w3 hbox hb; have BK400 := zA (hbox); have GW400 := zA (zBH hg HB.out); have GE400 := zA (zBH hg HB.out); replace HB := zA (kQ (zQ HB.out) hb); clear hb hbox hg) | (refine zO (some 9) Tryd.func48 #[.slice A0 l0.length c0, .int .i64 8, .int .i64 24] ?_; (with_reducible refine (spec_l03Pair.calls k _ _ l0 8 24 t401 t402 t403 t405 t406 t409 w _ ?side1 ?side2 ?side3 A2.out).mono ?_); (case side1 => exact zT HB.out GE400.out); (case side2 => exact HR0.out); (case side3 => exact HC0.out); rintro e w4 ⟨v407, v410, g404, rfl, ho0, ho1, hi, hb, hb2, hgw⟩; refine ⟨_, rfl, ?_⟩; have HO408 := zA (kI ho0 (kP (zT HB.out GE400.out))); have HO411 := zA (kI ho1 (kP (zT HB.out GE400.out))); replace HB := zA (hb); have HI404 := zA (hi); have NB404_400 := zA (Z98.ne_blk hi (blk_below (g := gb400) (o := .cells #[.int .i64 0, .slice none 0 0] 26 (0, 0)) (zR BK400.out) hb2) (by decide)); have NB400_404 := zA (Ne.symm (Z98.ne_blk hi (blk_below (g := gb400) (o := .cells #[.int .i64 0, .slice none 0 0] 26 (0, 0)) (zR BK400.out) hb2) (by decide))); replace BK400 := zA (zB1 BK400.out hb2); (try clear hb); (try clear hb2); (try clear hi); (try clear hgw); (try clear ho0); (try clear ho1)) | (refine zBE 5 #[.int .i64 0, .slice none 0 0] 26 ?_; intro gb412 hg w5 hbox hb; replace HO408 := zA (kL (zP HO408.out) hb); replace HO411 := zA (kL (zP HO411.out) hb); have BK412 := zA (hbox); have GW412 := zA (zB6 hg (kP (zV HB.out (Z98.ge HI404.out) GE400.out)) : w.heap.size ≤ gb412); have GE412 := zA (zB6 hg (kP (zV HB.out (Z98.ge HI404.out) GE400.out)) : w.heap.size ≤ gb412); replace HB := zA (kQ (zV HB.out (Z98.ge HI404.out) GE400.out) hb); have NB400_412 := zA (zB4 hg BK400.out : gb400 ≠ gb412); have NB412_400 := zA (zB5 hg BK400.out : gb412 ≠ gb400); replace BK400 := zA (zB1 BK400.out hb); have NB404_412 := zA (zB7 hg (Z98.lt (show Z98 w _ g404 t401 t402 t403 from Z98.uB HI404.out NB404_400.out)) : g404 ≠ gb412); have NB412_404 := zA (zB8 hg (Z98.lt (show Z98 w _ g404 t401 t402 t403 from Z98.uB HI404.out NB404_400.out)) : gb412 ≠ g404); replace HI404 := zA (Z98.below (Z98.uB HI404.out NB404_400.out) hb); clear hb hbox hg; have hnb6 := NB412_400.out; have hnc6 := NB400_412.out; have hnb7 := NB412_404.out; have hnc7 := NB404_412.out; obtain ⟨hcz8_0, hcz8_1, hfz8_0, hfz8_1⟩ := zB3 BK412.out; obtain ⟨Ao9, co9, eo9⟩ := kM HO408.out; subst eo9; have hnb10 := NB400_404.out; have hnc10 := NB404_400.out; obtain ⟨hcz11_0, hcz11_1, hfz11_0, hfz11_1⟩ := zB3 BK400.out))
 refine bodyPost_ret (results_ct rfl _ _ gb400 26 #[.int .i64 t405, .slice Ao9 t406.length co9] (0, 0) _ rfl (by (with_reducible repeat (first | refine zJ ?_ _ | refine zK ?_ | refine zI ?_ _)); refine blk_put (cs := #[.int .i64 t405, .slice none 0 0]) ?_ 1 _ rfl; (with_reducible repeat (first | refine zJ ?_ _ | refine zK ?_ | refine zI ?_ _)); refine blk_put (cs := #[.int .i64 0, .slice none 0 0]) ?_ 0 _ rfl; (with_reducible repeat (first | refine zJ ?_ _ | refine zK ?_ | refine zI ?_ _)); refine blk_far ?_ NB400_412.out _; (with_reducible repeat (first | refine zJ ?_ _ | refine zK ?_ | refine zI ?_ _)); refine blk_far ?_ NB400_412.out _; (with_reducible repeat (first | refine zJ ?_ _ | refine zK ?_ | refine zI ?_ _)); exact BK400.out) Tryd.underlying26 rfl (by kernel_rfl)) rfl ?_
 exact ⟨_, _, zr, by (with_reducible repeat (first | apply zF | apply zG | apply zH)); exact kA (kY (p := ⟨gb400, 1, none⟩) (kY (p := ⟨gb400, 0, none⟩) (kY (p := ⟨gb412, 1, none⟩) (kY (p := ⟨gb412, 0, none⟩) (kD (kD HO408.out BK412.out (by decide)) BK400.out (by decide)) (fun _ hk => hk.1.2) (.int .i64 t405)) (fun _ hk => hk.1.2) (.slice Ao9 t406.length co9)) (fun _ hk => hk.2) (.int .i64 t405)) (fun _ hk => hk.2) (.slice Ao9 t406.length co9)) (fun _ hk => hk.1.1), by (with_reducible repeat (first | apply zF | apply zG | apply zH)); exact kA (kY (p := ⟨gb400, 1, none⟩) (kY (p := ⟨gb400, 0, none⟩) (kY (p := ⟨gb412, 1, none⟩) (kY (p := ⟨gb412, 0, none⟩) (kD (kD HO411.out BK412.out (by decide)) BK400.out (by decide)) (fun _ hk => hk.1.2) (.int .i64 t405)) (fun _ hk => hk.1.2) (.slice Ao9 t406.length co9)) (fun _ hk => hk.2) (.int .i64 t405)) (fun _ hk => hk.2) (.slice Ao9 t406.length co9)) (fun _ hk => hk.1.1), zW HB.out (Z98.ge HI404.out) GE400.out GE412.out⟩

/-! ### slices_Clone_int64_int64: function 84: a contract of our own -/
def slices_Clone_int64_int64.f (l0 : List Int) : Option (List Int) := if l0.length < 17592186044416 then some l0 else none
set_option maxHeartbeats 2000000 in
set_option maxRecDepth 100000 in
theorem slices_Clone_int64_int64.calls (A0 : Option Addr) (c0 : Nat) (l0 : List Int) (r : List Int) (w : World) (hr0 : Kd.C (Kd.int .i64) w A0 l0.length l0) (hc0 : l0.length ≤ c0) (h : slices_Clone_int64_int64.f l0 = some r) :
  Calls Tryd.prog 84 #[.slice A0 l0.length c0] w fun e w' => ∃ v0_ : Value, e = .returned (v0_) ∧ Kd.R (Kd.int .i64) 2 w' w.heap.size (fun _ => True) v0_ r ∧ Below w.heap.size w w' := by
 unfold slices_Clone_int64_int64.f at h
 by_cases hl : l0.length < 17592186044416
 ·rw [if_pos hl] at h
  obtain rfl := Option.some.inj h
  clear h
  have HR0 := zA hr0
  have HL := zA hl
  have qnil : ∀ (w : World) (a : Option Addr) (n c n' c' : Nat), (binOp .eql 24 (.slice a n c) (.slice none n' c')).run Tryd.prog w = .ok (.bool a.isNone) w := fun w a n c n' c' => Lib.run_eql_slice_nil w _ _ a n c n' c' Tryd.underlying24
  cases A0 with
  | none =>
   have hz : l0 = [] := by
    rcases Nat.eq_zero_or_pos l0.length with e | e
    ·exact List.eq_nil_of_length_eq_zero e
    obtain ⟨ad, e1, _⟩ := hr0.2.2 e
    cases e1
   subst hz
   clear hr0 hl hc0
   go_enter Tryd.func84, Tryd.ntmps84
   go_wp2
   go_ret
   exact ⟨_, rfl, jO _ _ _ _ _, kW _ _⟩
  | some ad =>
   clear hr0 hl hc0
   go_enter Tryd.func84, Tryd.ntmps84
   go_wp2_with (first | ((with_reducible refine kS (N := 5) rfl ?_); refine Kd.R_lit (Kd.int .i64) _ 2 ?hg (N := 5) ?hd (xs := ([] : List Int)) (inner := []) (ok := fun _ => True) (okp := fun _ => True) ?hr ?hp (fun _ hk => hk) trivial (kW _ _) (Nat.le_refl _) (by simp) ?_; (case hd => rfl); (case hg => rfl); (case hr => first | (go_simp; done) | (go_simp; rfl)); (case hp => exact (Reps.none _ _)); intro v5 w5 ho hb hg_ hnew_; clear hg_ hnew_; have HO := zA ho; have HB := zA hb; clear ho hb) | ((with_reducible refine gate_builtin (b := .append) (xs := #[.tmp 5, .tmp 6]) rfl ?_); at_builtin; refine Kd.R_append_rows (Kd.int .i64) (w0 := w) w.heap.size rfl (.tmp 5) (.tmp 6) 24 2 (.int .i64 0) 8 rfl Tryd.underlying24 info2 rfl (by decide) (by omega) v5 [] l0 _ _ _ (fun _ => True) (fun _ => False) rfl rfl HO.out (kO HR0.out HB.out) (fun _ _ h => h) (fun _ h => h.elim) (fun _ _ => trivial) HB.out HB.out.size (by have := HL.out; simp; omega) ?_; intro v6 w6 ho hb hg hat; have HO' := zA ho; have HB' := zA hb; clear ho hb hg hat HO HB))
   go_ret
   exact ⟨_, rfl, HO'.out, HB'.out⟩
 rw [if_neg hl] at h
 cases h

/-! ### impl_closure: function 122 -/
mutual
def impl_closure.l0 : Nat → List Int → Int → Int → Option (List Int)
 | 0, _, _, _ => none
 | k + 1, x3, x10, x11 => if x11 < x10 then (if 0 ≤ x11 then (if x11 < (x3.length : Int) then ((impl_one.f x11).bind fun t417 => (impl_closure.l0 k (x3.set (x11 : Int).toNat (Go.bits .or .i64 (rd x3 x11) t417)) x10 (wrap64 (x11 + 1)))) else (none)) else (none)) else (impl_closure.l1 k x3 (x3.length : Int) 0)
def impl_closure.l1 : Nat → List Int → Int → Int → Option (List Int)
 | 0, _, _, _ => none
 | k + 1, x3, x24, x25 => if x25 < x24 then (impl_closure.l2 k x3 x25 x24 x25 (x3.length : Int) 0) else (some x3)
def impl_closure.l2 : Nat → List Int → Int → Int → Int → Int → Int → Option (List Int)
 | 0, _, _, _, _, _, _ => none
 | k + 1, x3, x5, x24, x25, x29, x30 => if x30 < x29 then (if 0 ≤ x30 then (if x30 < (x3.length : Int) then ((impl_has.f (rd x3 x30) x5).bind fun t420 => (if t420 = true then (if 0 ≤ x5 then (if x5 < (x3.length : Int) then (impl_closure.l2 k (x3.set (x30 : Int).toNat (Go.bits .or .i64 (rd x3 x30) (rd x3 x5))) x5 x24 x25 x29 (wrap64 (x30 + 1))) else (none)) else (none)) else (impl_closure.l2 k x3 x5 x24 x25 x29 (wrap64 (x30 + 1))))) else (none)) else (none)) else (impl_closure.l1 k x3 x24 (wrap64 (x25 + 1)))
end
def impl_closure.f (k : Nat) (l0 : List Int) : Option (List Int) := (slices_Clone_int64_int64.f l0).bind fun t413 => (impl_closure.l0 k t413 (t413.length : Int) 0)

def impl_closure.T5 : Bool × List (List Nat × List Nat) := (true, [([], []), ([], []), ([0, 1], [0, 1]), ([2], [2]), ([], []), ([4], [4]), ([3, 5], [3, 5]), ([0, 1, 0, 1, 2, 3, 4, 5, 6], [0, 1]), ([7, 6, 5, 0, 1, 2, 3, 4, 5, 6], [6, 7])])
def impl_closure.B5 : List Nat := [0, 0, 3, 7, 0, 16, 63, 127, 255]
theorem impl_closure.tab5 : rtab .any (opsOf Tryd.f122 5) = impl_closure.T5 := by kernel_rfl
theorem impl_closure.bits5 : waitsOk impl_closure.T5.2 impl_closure.B5 = true := by kernel_rfl
def impl_closure.T14 : Bool × List (List Nat × List Nat) := (true, [([], []), ([], []), ([0, 1], [0, 1]), ([2], [2]), ([], []), ([], []), ([4, 5], [4, 5]), ([6], [6]), ([3, 7], [3, 7]), ([0, 1, 0, 1, 2, 3, 4, 5, 6, 7, 8], [0, 1]), ([9, 8, 0, 1, 2, 3, 4, 5, 6, 7, 8], [8, 9])])
def impl_closure.B14 : List Nat := [0, 0, 3, 7, 0, 0, 48, 112, 255, 511, 1023]
theorem impl_closure.tab14 : rtab .any (opsOf Tryd.f122 14) = impl_closure.T14 := by kernel_rfl
theorem impl_closure.bits14 : waitsOk impl_closure.T14.2 impl_closure.B14 = true := by kernel_rfl
set_option maxHeartbeats 8000000 in
set_option maxRecDepth 100000 in
theorem impl_closure.calls (k : Nat) (A0 : Option Addr) (c0 : Nat) (l0 : List Int) (r : List Int) (w : World) (hr0 : Kd.C (Kd.int .i64) w A0 l0.length l0) (hc0 : l0.length ≤ c0) (h : impl_closure.f k l0 = some r) :
  Calls Tryd.prog 122 #[.slice A0 l0.length c0] w fun e w' => ∃ v0_ : Value, e = .returned (v0_) ∧ Kd.R (Kd.int .i64) 2 w' w.heap.size (fun _ => True) v0_ r ∧ Below w.heap.size w w' := by
 have HR0 := zA hr0
 have HC0 := zA hc0
 clear hr0 hc0
 have HB := zA (kW w.heap.size w)
 have H := h
 unfold impl_closure.f at H
 clear h
 obtain ⟨t413, A2, H⟩ := zb H
 try dsimp only at H
 have H' := zA H
 clear H
 go_enter Tryd.func122, Tryd.ntmps122
 go_wp2_with (first | (refine zO (some 8) Tryd.func84 #[.slice A0 l0.length c0] ?_; (with_reducible refine (slices_Clone_int64_int64.calls _ _ l0 t413 _ ?side1 ?side2 A2.out).mono ?_); (case side1 => exact zS HR0.out); (case side2 => exact HC0.out); rintro e w3 ⟨v414, rfl, ho0, hb⟩; refine ⟨_, rfl, ?_⟩; have HO415 := zA (kI ho0 (kP (zQ HB.out))); replace HB := zA (kQ (zQ HB.out) hb); (try clear hb); (try clear ho0); obtain ⟨Ao4, co4, eo4⟩ := kM HO415.out; subst eo4))
 go_loopg [11] k (fun kq v11 w' => ∃ (x3_1 : List Int) (x11_1 : Int), v11 = .int .i64 x11_1 ∧ Aside0 (impl_closure.l0 kq x3_1 (t413.length : Int) x11_1 = some r) ∧ Aside0 (kq ≤ k) ∧ Aside0 (Kd.R (Kd.int .i64) 2 w' w.heap.size (fun _ => True) (.slice Ao4 t413.length co4) x3_1) ∧ Aside0 (Below w.heap.size w w'))
 case atStart => exact ⟨(t413), (0), zs, H', ⟨Nat.le_refl _⟩, ⟨zP HO415.out⟩, ⟨zQ HB.out⟩⟩
 case round =>
  clear H'
  try clear c1
  obtain ⟨x3_1, x11_1, rfl, HA, HK1, HO_3, HB⟩ := hrel
  have hl3_1 := (kB HO_3.out).1
  rw [hl3_1] at HO_3
  (try simp only [hl3_1])
  cases gk with
  | zero => exact absurd HA.out (by simp [impl_closure.l0])
  | succ k1 =>
   have H := HA.out
   clear HA
   simp only [impl_closure.l0] at H
   by_cases c5 : x11_1 < (t413.length : Int)
   ·rw [if_pos c5] at H
    have c5b0 : decide (x11_1 < (t413.length : Int)) = true := decide_eq_true c5
    (try (have c5b0h0_ := c5b0; rw [hl3_1] at c5b0h0_))
    clear c5
    by_cases c6 : 0 ≤ x11_1
    ·rw [if_pos c6] at H
     have c6b0 : decide (0 ≤ x11_1) = true := decide_eq_true c6
     clear c6
     by_cases c7 : x11_1 < (x3_1.length : Int)
     ·rw [if_pos c7] at H
      have c7b0 : decide (x11_1 < (x3_1.length : Int)) = true := decide_eq_true c7
      (try (have c7b0h0_ := c7b0; rw [hl3_1] at c7b0h0_))
      clear c7
      obtain ⟨t417, A8, H⟩ := zb H
      try dsimp only at H
      obtain ⟨y418, hy418⟩ : ∃ y_ : List Int, y_ = (x3_1.set (x11_1 : Int).toNat (Go.bits .or .i64 (rd x3_1 x11_1) t417)) := ⟨_, rfl⟩
      replace H : (impl_closure.l0 k1 y418 (t413.length : Int) (wrap64 (x11_1 + 1))) = some r := zy hy418 H
      have Ny418 := zA hy418
      clear hy418
      have H' := zA H
      clear H
      try go_wp2
      replace HO_3 := zA (zH HO_3.out)
      replace HB := zA (zD HB.out)
      have p416 : 0 ≤ (x11_1 : Int) := zd
      have q416 : x11_1 < (x3_1.length : Int) := zd
      obtain ⟨ad416, e416, hx416_0⟩ := Kd.at_int (kB HO_3.out).2.2 x11_1 p416 q416
      cases e416
      replace p416 := eq_true p416
      replace q416 := eq_true q416
      refine start_ (n := 9) (S := fun w' => w'.cell? (ad416.add (x11_1).toNat) = some (.int .i64 (rd x3_1 x11_1))) (ds := [8]) #[false, false, false, false, false, false, false, false, false] (by kernel_rfl) rfl rfl (hx416_0) (fun hHeld => ?_); refine with_tabW impl_closure.tab5 impl_closure.bits5 (fun HT_ HW_ => ?_)
      generalize wr.drew = w10 at HO_3 HB hx416_0 hHeld ⊢
      refine zp 0 (some 14) #[true, false, false, false, false, false, false, false, false] HT_.out ?_
      refine zp 1 (some 15) #[true, true, false, false, false, false, false, false, false] HT_.out ?_
      refine zp 2 (some 16) #[true, true, true, false, false, false, false, false, false] HT_.out ?_
      refine zp 4 (some 18) #[true, true, true, false, true, false, false, false, false] HT_.out ?_
      refine za 3 (some 17) #[true, true, true, true, true, false, false, false, false] HT_.out HW_.out hHeld ?_
      refine one_ (i := 5) (N := some 19) #[true, true, true, true, true, true, false, false, false] rfl rfl (one_of HT_.out (by kernel_rfl)) (by decide) (fun K hK => ?_)
      refine goes_ Tryd.func111 (by kernel_rfl) rfl #[.int .i64 x11_1] (by rfl) rfl rfl zg ?_
      with_reducible refine (impl_one.calls x11_1 t417 _ A8.out).mono ?_
      rintro e w' ⟨rfl, ⟨nd, rfl⟩⟩
      refine ⟨_, rfl, ?_⟩
      have p9 : 0 ≤ (x11_1 : Int) := zd
      have q9 : (x11_1 : Int) < ((x3_1.length : Int) : Int) := zd
      obtain ⟨go9, co9, eo9, gb9, gl9, cl9, HG9⟩ := Kd.R_form HO_3.out (by omega)
      (first | cases eo9 | (injection eo9 with ea_ en_ ec_; (first | subst ea_ | (injection ea_ with ea_; subst ea_)); subst ec_; clear en_))
      have GB9 := zA gb9
      have GG9 := zA HG9
      clear gb9 gl9 HG9
      (first | simp only [add_plain] at hx416_0 | skip)
      obtain ⟨hx9_0, hf9_0⟩ := Kd.R_celln 0 HO_3.out (x11_1 : Int) p9 q9
      replace p9 := eq_true p9
      replace q9 := eq_true q9
      have HP11 := Kd.R_putn HO_3.out (x11_1 : Int) (Go.bits .or .i64 (rd x3_1 x11_1) t417)
      rw [← Ny418.out] at HP11
      have HQ11 := zA HP11
      clear HP11
      refine hK.out _ _ (hHeld) (fun hHeld => ?_)
      clear hK K
      refine norm_ (a' := ?_) ?_ ?_
      rotate_left
      ·show Act.put _ (some 19) _ = _
       simp only [Act.put, zL, zM, zN, i64_w, i32_w]
       rfl
      refine zp 6 (some 20) #[true, true, true, true, true, true, true, false, false] HT_.out ?_
      refine zp 7 (some 21) #[true, true, true, true, true, true, true, true, false] HT_.out ?_
      refine last_ (i := 8) (N := none) #[true, true, true, true, true, true, true, true, true] rfl rfl (one_of HT_.out (by kernel_rfl)) (by decide) (fun K hK => ?_)
      refine skip_ (w1 := ?_) (by rfl) rfl ?_ ?_
      rotate_left
      ·go_simp
       rfl
      refine hK.out _ _ ?_
      clear hK K
      refine done_ (done_of HT_.out (by kernel_rfl)) ?_
      try go_wp2
      (try simp only [← hl3_1])
      go_roundg k1
      case measure => have := HK1.out; omega
      case rel => exact ⟨(y418), (wrap64 (x11_1 + 1)), zs, H', ⟨by have := HK1.out; omega⟩, ⟨by (try simp only [hl3_1]); (with_reducible repeat (first | apply zF | apply zG | apply zH)); exact HQ11.out⟩, ⟨zT HB.out GB9.out⟩⟩
     rw [if_neg c7] at H
     exact absurd H (by simp)
    rw [if_neg c6] at H
    exact absurd H (by simp)
   rw [if_neg c5] at H
   have c5b0 : decide (x11_1 < (t413.length : Int)) = false := decide_eq_false c5
   (try (have c5b0h0_ := c5b0; rw [hl3_1] at c5b0h0_))
   clear c5
   have H' := zA H
   clear H
   go_wp2
   go_loopg [25] k1 (fun kq v25 w' => ∃ (x3_2 : List Int) (x25_2 : Int), v25 = .int .i64 x25_2 ∧ Aside0 (impl_closure.l1 kq x3_2 (x3_1.length : Int) x25_2 = some r) ∧ Aside0 (kq ≤ k1) ∧ Aside0 (Kd.R (Kd.int .i64) 2 w' w.heap.size (fun _ => True) (.slice Ao4 x3_1.length co4) x3_2) ∧ Aside0 (Below w.heap.size w w'))
   case atStart => exact ⟨(x3_1), (0), zs, H', ⟨Nat.le_refl _⟩, ⟨by (try simp only [hl3_1]); (with_reducible repeat (first | apply zF | apply zG | apply zH)); exact HO_3.out⟩, ⟨zQ HB.out⟩⟩
   case round =>
    clear H'
    try clear c1
    try clear hx4
    try clear c5
    try clear c6
    try clear c7
    try clear c8
    try clear hx9
    try clear hf9
    try clear c11
    try clear hx416_0
    try clear hx9_0
    obtain ⟨x3_2, x25_2, rfl, HA, HK2, HO_3, HB⟩ := hrel
    have hl3_2 := (kB HO_3.out).1
    rw [hl3_2] at HO_3
    (try simp only [hl3_2])
    cases gk with
    | zero => exact absurd HA.out (by simp [impl_closure.l1])
    | succ k2 =>
     have H := HA.out
     clear HA
     simp only [impl_closure.l1] at H
     by_cases c12 : x25_2 < (x3_1.length : Int)
     ·rw [if_pos c12] at H
      have c12b0 : decide (x25_2 < (x3_1.length : Int)) = true := decide_eq_true c12
      (try (have c12b0h0_ := c12b0; rw [hl3_1] at c12b0h0_))
      (try (have c12b0h1_ := c12b0; rw [hl3_2] at c12b0h1_))
      clear c12
      have H' := zA H
      clear H
      go_wp2
      go_loopg [30] k2 (fun kq v30 w' => ∃ (x3_3 : List Int) (x30_3 : Int), v30 = .int .i64 x30_3 ∧ Aside0 (impl_closure.l2 kq x3_3 x25_2 (x3_1.length : Int) x25_2 (x3_2.length : Int) x30_3 = some r) ∧ Aside0 (kq ≤ k2) ∧ Aside0 (Kd.R (Kd.int .i64) 2 w' w.heap.size (fun _ => True) (.slice Ao4 x3_2.length co4) x3_3) ∧ Aside0 (Below w.heap.size w w'))
      case atStart => exact ⟨(x3_2), (0), zs, H', ⟨Nat.le_refl _⟩, ⟨by (try simp only [hl3_1]); (try simp only [hl3_2]); (with_reducible repeat (first | apply zF | apply zG | apply zH)); exact HO_3.out⟩, ⟨zQ HB.out⟩⟩
      case round =>
       clear H'
       try clear c1
       try clear hx4
       try clear c5
       try clear c6
       try clear c7
       try clear c8
       try clear hx9
       try clear hf9
       try clear c11
       try clear c12
       try clear hx416_0
       try clear hx9_0
       obtain ⟨x3_3, x30_3, rfl, HA, HK3, HO_3, HB⟩ := hrel
       have hl3_3 := (kB HO_3.out).1
       rw [hl3_3] at HO_3
       (try simp only [hl3_3])
       cases gk with
       | zero => exact absurd HA.out (by simp [impl_closure.l2])
       | succ k3 =>
        have H := HA.out
        clear HA
        simp only [impl_closure.l2] at H
        by_cases c13 : x30_3 < (x3_2.length : Int)
        ·rw [if_pos c13] at H
         have c13b0 : decide (x30_3 < (x3_2.length : Int)) = true := decide_eq_true c13
         (try (have c13b0h0_ := c13b0; rw [hl3_1] at c13b0h0_))
         (try (have c13b0h1_ := c13b0; rw [hl3_2] at c13b0h1_))
         (try (have c13b0h2_ := c13b0; rw [hl3_3] at c13b0h2_))
         clear c13
         by_cases c14 : 0 ≤ x30_3
         ·rw [if_pos c14] at H
          have c14b0 : decide (0 ≤ x30_3) = true := decide_eq_true c14
          clear c14
          by_cases c15 : x30_3 < (x3_3.length : Int)
          ·rw [if_pos c15] at H
           have c15b0 : decide (x30_3 < (x3_3.length : Int)) = true := decide_eq_true c15
           (try (have c15b0h0_ := c15b0; rw [hl3_1] at c15b0h0_))
           (try (have c15b0h1_ := c15b0; rw [hl3_2] at c15b0h1_))
           (try (have c15b0h2_ := c15b0; rw [hl3_3] at c15b0h2_))
           clear c15
           obtain ⟨t420, A16, H⟩ := zb H
           try dsimp only at H
           by_cases c17 : t420 = true
           ·subst c17
            rw [if_pos rfl] at H
            by_cases c18 : 0 ≤ x25_2
            ·rw [if_pos c18] at H
             have c18b0 : decide (0 ≤ x25_2) = true := decide_eq_true c18
             clear c18
             by_cases c19 : x25_2 < (x3_3.length : Int)
             ·rw [if_pos c19] at H
              have c19b0 : decide (x25_2 < (x3_3.length : Int)) = true := decide_eq_true c19
              (try (have c19b0h0_ := c19b0; rw [hl3_1] at c19b0h0_))
              (try (have c19b0h1_ := c19b0; rw [hl3_2] at c19b0h1_))
              (try (have c19b0h2_ := c19b0; rw [hl3_3] at c19b0h2_))
              clear c19
              obtain ⟨y423, hy423⟩ : ∃ y_ : List Int, y_ = (x3_3.set (x30_3 : Int).toNat (Go.bits .or .i64 (rd x3_3 x30_3) (rd x3_3 x25_2))) := ⟨_, rfl⟩
              replace H : (impl_closure.l2 k3 y423 x25_2 (x3_1.length : Int) x25_2 (x3_2.length : Int) (wrap64 (x30_3 + 1))) = some r := zy hy423 H
              have Ny423 := zA hy423
              clear hy423
              have H' := zA H
              clear H
              have p419 : 0 ≤ (x30_3 : Int) := zd
              have q419 : x30_3 < (x3_3.length : Int) := zd
              obtain ⟨ad419, e419, hx419_0⟩ := Kd.at_int (kB HO_3.out).2.2 x30_3 p419 q419
              cases e419
              replace p419 := eq_true p419
              replace q419 := eq_true q419
              try go_wp2_with (first | (refine zO (some 38) Tryd.func77 #[.int .i64 (rd x3_3 x30_3), .int .i64 x25_2] ?_; (with_reducible refine (impl_has.calls (rd x3_3 x30_3) x25_2 true _ A16.out).mono ?_); rintro e w' ⟨rfl, ⟨nd, rfl⟩⟩; refine ⟨_, rfl, ?_⟩; (try (rw [drewN_self wr]; generalize hq_ : World.drewN wr _ = wr; have n0_ : Aside0 (Kd.R (Kd.int .i64) 2 wr w.heap.size (fun _ => True) (.slice (some ad419) x3_3.length co4) x3_3) := ⟨by rw [← hq_]; exact (zP HO_3.out)⟩; have n1_ : Aside0 (Below w.heap.size w wr) := ⟨by rw [← hq_]; exact (zQ HB.out)⟩; clear HO_3 HB hq_; have HO_3 := n0_; have HB := n1_; clear n0_ n1_))))
              replace HO_3 := zA (zH HO_3.out)
              replace HB := zA (zD HB.out)
              have p421 : 0 ≤ (x30_3 : Int) := zd
              have q421 : x30_3 < (x3_3.length : Int) := zd
              obtain ⟨ad421, e421, hx421_0⟩ := Kd.at_int (kB HO_3.out).2.2 x30_3 p421 q421
              obtain rfl : ad419 = ad421 := (by injection e421)
              replace p421 := eq_true p421
              replace q421 := eq_true q421
              have p422 : 0 ≤ (x25_2 : Int) := zd
              have q422 : x25_2 < (x3_3.length : Int) := zd
              obtain ⟨ad422, e422, hx422_0⟩ := Kd.at_int (kB HO_3.out).2.2 x25_2 p422 q422
              obtain rfl : ad419 = ad422 := (by injection e422)
              replace p422 := eq_true p422
              replace q422 := eq_true q422
              have p20 : 0 ≤ (x30_3 : Int) := zd
              have q20 : (x30_3 : Int) < ((x3_3.length : Int) : Int) := zd
              obtain ⟨go20, co20, eo20, gb20, gl20, cl20, HG20⟩ := Kd.R_form HO_3.out (by omega)
              (first | cases eo20 | (injection eo20 with ea_ en_ ec_; (first | subst ea_ | (injection ea_ with ea_; subst ea_)); subst ec_; clear en_))
              have GB20 := zA gb20
              have GG20 := zA HG20
              clear gb20 gl20 HG20
              (first | simp only [add_plain] at hx419_0 | skip)
              (first | simp only [add_plain] at hx421_0 | skip)
              (first | simp only [add_plain] at hx422_0 | skip)
              obtain ⟨hx20_0, hf20_0⟩ := Kd.R_celln 0 HO_3.out (x30_3 : Int) p20 q20
              replace p20 := eq_true p20
              replace q20 := eq_true q20
              have HP22 := Kd.R_putn HO_3.out (x30_3 : Int) (Go.bits .or .i64 (rd x3_3 x30_3) (rd x3_3 x25_2))
              rw [← Ny423.out] at HP22
              have HQ22 := zA HP22
              clear HP22
              refine start_ (n := 11) (S := fun w' => w'.cell? ⟨go20, (x30_3).toNat, none⟩ = some (.int .i64 (rd x3_3 x30_3)) ∧ w'.cell? ⟨go20, (x25_2).toNat, none⟩ = some (.int .i64 (rd x3_3 x25_2))) (ds := [10]) #[false, false, false, false, false, false, false, false, false, false, false] (by kernel_rfl) rfl rfl ⟨hx421_0, hx422_0⟩ (fun hHeld => ?_); refine with_tabW impl_closure.tab14 impl_closure.bits14 (fun HT_ HW_ => ?_)
              generalize wr.drew = w21 at HO_3 HB GG20 HQ22 hf20_0 hx20_0 hx419_0 hx421_0 hx422_0 hHeld ⊢
              refine zp 0 (some 39) #[true, false, false, false, false, false, false, false, false, false, false] HT_.out ?_
              refine zp 1 (some 40) #[true, true, false, false, false, false, false, false, false, false, false] HT_.out ?_
              refine zp 2 (some 41) #[true, true, true, false, false, false, false, false, false, false, false] HT_.out ?_
              refine zp 4 (some 43) #[true, true, true, false, true, false, false, false, false, false, false] HT_.out ?_
              refine zp 5 (some 44) #[true, true, true, false, true, true, false, false, false, false, false] HT_.out ?_
              refine zp 6 (some 45) #[true, true, true, false, true, true, true, false, false, false, false] HT_.out ?_
              refine zc 3 (some 42) #[true, true, true, true, true, true, true, false, false, false, false] HT_.out HW_.out hHeld ?_
              refine zc 7 (some 46) #[true, true, true, true, true, true, true, true, false, false, false] HT_.out HW_.out hHeld ?_
              refine zp 8 (some 47) #[true, true, true, true, true, true, true, true, true, false, false] HT_.out ?_
              refine zp 9 (some 48) #[true, true, true, true, true, true, true, true, true, true, false] HT_.out ?_
              refine last_ (i := 10) (N := none) #[true, true, true, true, true, true, true, true, true, true, true] rfl rfl (one_of HT_.out (by kernel_rfl)) (by decide) (fun K hK => ?_)
              refine skip_ (w1 := ?_) (by rfl) rfl ?_ ?_
              rotate_left
              ·go_simp
               rfl
              refine hK.out _ _ ?_
              clear hK K
              refine done_ (done_of HT_.out (by kernel_rfl)) ?_
              try go_wp2
              (try simp only [← hl3_3])
              go_roundg k3
              case measure => have := HK1.out; have := HK2.out; have := HK3.out; omega
              case rel => exact ⟨(y423), (wrap64 (x30_3 + 1)), zs, H', ⟨by have := HK1.out; have := HK2.out; have := HK3.out; omega⟩, ⟨by (try simp only [hl3_1]); (try simp only [hl3_2]); (try simp only [hl3_3]); (with_reducible repeat (first | apply zF | apply zG | apply zH)); exact HQ22.out⟩, ⟨zT HB.out GB20.out⟩⟩
             rw [if_neg c19] at H
             exact absurd H (by simp)
            rw [if_neg c18] at H
            exact absurd H (by simp)
           replace c17 := Bool.eq_false_iff.mpr c17
           subst c17
           rw [if_neg (show ¬ (false = true) by decide)] at H
           have H' := zA H
           clear H
           have p419 : 0 ≤ (x30_3 : Int) := zd
           have q419 : x30_3 < (x3_3.length : Int) := zd
           obtain ⟨ad419, e419, hx419_0⟩ := Kd.at_int (kB HO_3.out).2.2 x30_3 p419 q419
           cases e419
           replace p419 := eq_true p419
           replace q419 := eq_true q419
           go_wp2_with (first | (refine zO (some 38) Tryd.func77 #[.int .i64 (rd x3_3 x30_3), .int .i64 x25_2] ?_; (with_reducible refine (impl_has.calls (rd x3_3 x30_3) x25_2 false _ A16.out).mono ?_); rintro e w' ⟨rfl, ⟨nd, rfl⟩⟩; refine ⟨_, rfl, ?_⟩))
           (try simp only [← hl3_3])
           go_roundg k3
           case measure => have := HK1.out; have := HK2.out; have := HK3.out; omega
           case rel => exact ⟨(x3_3), (wrap64 (x30_3 + 1)), zs, H', ⟨by have := HK1.out; have := HK2.out; have := HK3.out; omega⟩, ⟨by (try simp only [hl3_1]); (try simp only [hl3_2]); (try simp only [hl3_3]); (with_reducible repeat (first | apply zF | apply zG | apply zH)); exact HO_3.out⟩, ⟨zQ HB.out⟩⟩
          rw [if_neg c15] at H
          exact absurd H (by simp)
         rw [if_neg c14] at H
         exact absurd H (by simp)
        rw [if_neg c13] at H
        have c13b0 : decide (x30_3 < (x3_2.length : Int)) = false := decide_eq_false c13
        (try (have c13b0h0_ := c13b0; rw [hl3_1] at c13b0h0_))
        (try (have c13b0h1_ := c13b0; rw [hl3_2] at c13b0h1_))
        (try (have c13b0h2_ := c13b0; rw [hl3_3] at c13b0h2_))
        clear c13
        have H' := zA H
        clear H
        go_wp2
        (try simp only [← hl3_2, ← hl3_3])
        go_roundg k3
        case measure => have := HK1.out; have := HK2.out; have := HK3.out; omega
        case rel => exact ⟨(x3_3), (wrap64 (x25_2 + 1)), zs, H', ⟨by have := HK1.out; have := HK2.out; have := HK3.out; omega⟩, ⟨by (try simp only [hl3_1]); (try simp only [hl3_2]); (try simp only [hl3_3]); (with_reducible repeat (first | apply zF | apply zG | apply zH)); exact HO_3.out⟩, ⟨zQ HB.out⟩⟩
     rw [if_neg c12] at H
     have c12b0 : decide (x25_2 < (x3_1.length : Int)) = false := decide_eq_false c12
     (try (have c12b0h0_ := c12b0; rw [hl3_1] at c12b0h0_))
     (try (have c12b0h1_ := c12b0; rw [hl3_2] at c12b0h1_))
     (try (have c12b0h2_ := c12b0; rw [hl3_3] at c12b0h2_))
     clear c12
     obtain rfl := Option.some.inj H
     go_wp2
     go_ret
     exact ⟨_, zr, zP HO_3.out, zQ HB.out⟩

end Go.Proofs.YtcboobfmenonhaaDoor.PAll
