-- Printed by a program of the session (wip/tools/pgen.py) out of the translation. Not trusted: Lean checks it.
import Derived.Test.YthgapkbkhoeleaaDoorPAllx0
import Derived.Test.YthgapkbkhoeleaaDoorPAllx1
import Derived.Test.YthgapkbkhoeleaaDoorPAllx8
import Derived.Test.YthgapkbkhoeleaaDoorPAllx9
namespace Go.Proofs.YthgapkbkhoeleaaDoor.PAll
open Go.RowKit Go.Proofs.YthgapkbkhoeleaaDoor.T Go.Proofs.YthgapkbkhoeleaaDoorW.PrintWords Go.Proofs.YthgapkbkhoeleaaDoorW.PrintLast Go.Proofs.YthgapkbkhoeleaaDoorW.PrintMore
attribute [local go_sem] max2_int min2_int max_two min_two max_three min_three max_four min_four   -- for this text's walks alone
set_option linter.unusedVariables false
set_option linter.unusedSimpArgs false

/-! ### spec_l03Draw: function 194 -/
def spec_l03Draw.l0 : Nat → List Int → Int → List Int → Int → Int → Int → List Int → Option (List Int × Int × Int)
 | 0, _, _, _, _, _, _, _ => none
 | k + 1, x7, x8, x1000, x1001, x1002, x487000, x487001 => if x8 > 0 then (if (x7.length : Int) > 0 then ((spec_l01Next.f x1000 x1001 x1002 8).bind fun bt493 => (if bt493.1 = 0 then (if 0 ≤ (wrap64 ((x7.length : Int) - 1)) then (if (wrap64 ((x7.length : Int) - 1)) < (x7.length : Int) then (if x7.length < 17592186044416 then (spec_l03Draw.l0 k (x7 ++ [rd x7 (wrap64 ((x7.length : Int) - 1))]) (wrap64 (x8 - 1)) x1000 bt493.2.1 bt493.2.2 x487000 x487001) else (none)) else (none)) else (none)) else ((spec_l01Next.f x1000 bt493.2.1 bt493.2.2 x487000).bind fun bt500 => (if x7.length < 17592186044416 then (spec_l03Draw.l0 k (x7 ++ [bt500.1]) (wrap64 (x8 - 1)) x1000 bt500.2.1 bt500.2.2 x487000 x487001) else (none))))) else ((spec_l01Next.f x1000 x1001 x1002 x487000).bind fun bt506 => (if x7.length < 17592186044416 then (spec_l03Draw.l0 k (x7 ++ [bt506.1]) (wrap64 (x8 - 1)) x1000 bt506.2.1 bt506.2.2 x487000 x487001) else (none)))) else (some (x7, x1001, x1002))
def spec_l03Draw.f (k : Nat) (s0_0 : List Int) (s0_1 : Int) (s0_2 : Int) (a1_0 : Int) (l1_1 : List Int) (a2 : Int) : Option (List Int × Int × Int) := (some (([] : List Int) : List Int)).bind fun y487 => (if a1_0 = 0 then (some (y487, s0_1, s0_2)) else ((spec_l01Next.f s0_0 s0_1 s0_2 (wrap64 (a2 + 1))).bind fun bt490 => (spec_l03Draw.l0 k y487 bt490.1 s0_0 bt490.2.1 bt490.2.2 a1_0 l1_1)))

set_option maxHeartbeats 8000000 in
set_option maxRecDepth 100000 in
theorem spec_l03Draw.calls (k : Nat) (g : Nat) (s0_0 : List Int) (s0_1 : Int) (s0_2 : Int) (a1_0 : Int) (A1_1 : Option Addr) (c1_1 : Nat) (l1_1 : List Int) (a2 : Int) (r1 : List Int) (r2 : Int) (r3 : Int) (w0 w : World) (hI : Z140 w0 w g s0_0 s0_1 s0_2) (hB : Below w0.heap.size w0 w) (hr1_1 : Kd.C (Kd.int .i64) w A1_1 l1_1.length l1_1) (hc1_1 : l1_1.length ≤ c1_1) (hf1_1 : ∀ ad, A1_1 = some ad → 0 < l1_1.length → ad.block ≠ g) (h : spec_l03Draw.f k s0_0 s0_1 s0_2 a1_0 l1_1 a2 = some (r1, r2, r3)) :
  Calls Tryd.prog 194 #[.pointer (some ⟨g, 0, none⟩), .agg #[.int .i64 a1_0, .slice A1_1 l1_1.length c1_1], .int .i64 a2] w fun e w' => ∃ v0_ : Value, e = .returned (v0_) ∧ Kd.R (Kd.int .i64) 2 w' w.heap.size (fun _ => True) v0_ r1 ∧ Z140 w0 w' g s0_0 r2 r3 ∧ Below w0.heap.size w0 w' ∧ KeepBut w w' g none := by
 have hu29 := Tryd.underlying29
 have HR1_1 := zA hr1_1
 have HC1_1 := zA hc1_1
 clear hr1_1 hc1_1
 have HI0 := zA hI
 have HK := zA (KeepBut.refl w g none)
 have HL := zA hB.size
 clear hI
 have HW0 := zA hB.size
 have HB := zA hB
 clear hB
 have H := h
 unfold spec_l03Draw.f at H
 clear h
 obtain ⟨y487, hy487⟩ : ∃ y_ : List Int, y_ = (([] : List Int)) := ⟨_, rfl⟩
 replace H : (if a1_0 = 0 then (some (y487, s0_1, s0_2)) else ((spec_l01Next.f s0_0 s0_1 s0_2 (wrap64 (a2 + 1))).bind fun bt490 => (spec_l03Draw.l0 k y487 bt490.1 s0_0 bt490.2.1 bt490.2.2 a1_0 l1_1))) = some (r1, r2, r3) := zy hy487 H
 have Ny487 := zA hy487
 clear hy487
 by_cases c4 : a1_0 = 0
 ·rw [if_pos c4] at H
  obtain ⟨c4b0, c4b1⟩ := zT1 c4
  clear c4
  simp only [Option.some.injEq, Prod.mk.injEq] at H
  obtain ⟨rfl, rfl, rfl⟩ := H
  go_enter Tryd.func194, Tryd.ntmps194
  go_wp2_with (first | (refine zBE 4 #[.int .i64 a1_0, .slice A1_1 l1_1.length c1_1] 29 ?_; intro gb486 hg w5 hbox hb; replace HB := zA (kQ (zT HB.out (Z140.ge HI0.out)) hb); have BK486 := zA (hbox); have GW486 := zA (zB6 hg (kX (w := w) (g := g) (row := none) (yA HK.out)) : w.heap.size ≤ gb486); have GE486 := zA ((Nat.le_trans HW0.out (by rw [hg]; exact (kX (w := w) (g := g) (row := none) (yA HK.out)) : w.heap.size ≤ gb486) : w0.heap.size ≤ gb486)); replace HK := zA (kT (yA HK.out) (kU hb g none) (.inl rfl)); have NB0_486 := zA (zB7 hg (Z140.lt (show Z140 w0 _ g s0_0 s0_1 s0_2 from Z140.uA HI0.out)) : g ≠ gb486); have NB486_0 := zA (zB8 hg (Z140.lt (show Z140 w0 _ g s0_0 s0_1 s0_2 from Z140.uA HI0.out)) : gb486 ≠ g); replace HI0 := zA (Z140.below (Z140.uA HI0.out) hb); clear hb hbox hg) | ((with_reducible refine kS (N := 9) rfl ?_); refine Kd.R_lit (Kd.int .i64) _ 2 ?hg (N := 9) ?hd (xs := ([] : List Int)) (inner := []) (ok := fun _ => True) (okp := fun _ => True) ?hr ?hp (fun _ hk => hk) trivial (kW _ _) (Nat.le_refl _) (by simp) ?_; (case hd => rfl); (case hg => rfl); (case hr => first | (go_simp; done) | (go_simp; rfl)); (case hp => exact (Reps.none _ _)); intro v488 w6 ho7 hb hg_ hnew_; clear hg_ hnew_; (first | rw [← Ny487.out] at ho7 | (simp only [Int.reduceToNat] at ho7; rw [← Ny487.out] at ho7)); have HO489 := zA (kI ho7 (kX (w := w) (g := g) (row := none) (yB HK.out GW486.out))); replace BK486 := zA (zB1 BK486.out hb); replace HK := zA (kT (yB HK.out GW486.out) (kU hb g none) (.inl rfl)); replace HB := zA (kQ (zV HB.out (Z140.ge HI0.out) GE486.out) hb); replace HI0 := zA (Z140.below (Z140.uB HI0.out NB0_486.out) hb); clear hb ho7; have hnb8 := NB486_0.out; have hnc8 := NB0_486.out; obtain ⟨hcz9_0, hcz9_1, hfz9_0, hfz9_1⟩ := zB3 BK486.out))
  go_ret
  exact ⟨_, zr, zP HO489.out, by repeat (first | (with_reducible first | exact HI0.out | apply Z140.alloc | apply Z140.drewN | apply Z140.drew | apply Z140.set_1 | apply Z140.set_2 | refine Z140.far ?_ NB0_486.out _) | exact HI0.out), zV HB.out (Z140.ge HI0.out) GE486.out, by repeat (first | (with_reducible first | exact HK.out | apply KeepBut.set_ | apply keep_drewN | apply keep_drew | apply keep_alloc | refine keep_far ?_ GW486.out _) | exact HK.out)⟩
 rw [if_neg c4] at H
 obtain ⟨c4b0, c4b1⟩ := zT2 c4
 obtain ⟨⟨t490, t491, t492⟩, A10, H⟩ := zb H
 try dsimp only at H
 have H' := zA H
 clear H
 go_enter Tryd.func194, Tryd.ntmps194
 go_wp2_with (first | (refine zBE 4 #[.int .i64 a1_0, .slice A1_1 l1_1.length c1_1] 29 ?_; intro gb486 hg w11 hbox hb; replace HB := zA (kQ (zT HB.out (Z140.ge HI0.out)) hb); have BK486 := zA (hbox); have GW486 := zA (zB6 hg (kX (w := w) (g := g) (row := none) (yA HK.out)) : w.heap.size ≤ gb486); have GE486 := zA ((Nat.le_trans HW0.out (by rw [hg]; exact (kX (w := w) (g := g) (row := none) (yA HK.out)) : w.heap.size ≤ gb486) : w0.heap.size ≤ gb486)); replace HK := zA (kT (yA HK.out) (kU hb g none) (.inl rfl)); have NB0_486 := zA (zB7 hg (Z140.lt (show Z140 w0 _ g s0_0 s0_1 s0_2 from Z140.uA HI0.out)) : g ≠ gb486); have NB486_0 := zA (zB8 hg (Z140.lt (show Z140 w0 _ g s0_0 s0_1 s0_2 from Z140.uA HI0.out)) : gb486 ≠ g); replace HI0 := zA (Z140.below (Z140.uA HI0.out) hb); clear hb hbox hg) | ((with_reducible refine kS (N := 9) rfl ?_); refine Kd.R_lit (Kd.int .i64) _ 2 ?hg (N := 9) ?hd (xs := ([] : List Int)) (inner := []) (ok := fun _ => True) (okp := fun _ => True) ?hr ?hp (fun _ hk => hk) trivial (kW _ _) (Nat.le_refl _) (by simp) ?_; (case hd => rfl); (case hg => rfl); (case hr => first | (go_simp; done) | (go_simp; rfl)); (case hp => exact (Reps.none _ _)); intro v488 w12 ho13 hb hg_ hnew_; clear hg_ hnew_; (first | rw [← Ny487.out] at ho13 | (simp only [Int.reduceToNat] at ho13; rw [← Ny487.out] at ho13)); have HO489 := zA (kI ho13 (kX (w := w) (g := g) (row := none) (yB HK.out GW486.out))); replace BK486 := zA (zB1 BK486.out hb); replace HK := zA (kT (yB HK.out GW486.out) (kU hb g none) (.inl rfl)); replace HB := zA (kQ (zV HB.out (Z140.ge HI0.out) GE486.out) hb); replace HI0 := zA (Z140.below (Z140.uB HI0.out NB0_486.out) hb); clear hb ho13; have hnb14 := NB486_0.out; have hnc14 := NB0_486.out; obtain ⟨hcz15_0, hcz15_1, hfz15_0, hfz15_1⟩ := zB3 BK486.out) | (refine zO (some 17) Tryd.func128 #[.pointer (some ⟨g, 0, none⟩), .int .i64 (wrap64 (a2 + 1))] ?_; (with_reducible refine (spec_l01Next.calls g s0_0 s0_1 s0_2 (wrap64 (a2 + 1)) t490 t491 t492 w0 _ ?side1 ?side2 A10.out).mono ?_); (case side1 => exact Z140.uB HI0.out NB0_486.out); (case side2 => exact zV HB.out (Z140.ge HI0.out) GE486.out); rintro e w16 ⟨rfl, hi, hb, hk⟩; refine ⟨_, rfl, ?_⟩; replace BK486 := zA (zB2 hk BK486.out NB486_0.out); replace HO489 := zA (zB9 (Z140.apart (show Z140 w0 _ g s0_0 s0_1 s0_2 from Z140.uB HI0.out NB0_486.out) (zP HO489.out) (by decide)) hk); replace HK := zA (kT (yB HK.out GW486.out) hk (.inl rfl)); replace HB := zA (hb); replace HI0 := zA (hi); (try clear hb); (try clear hk); (try clear hi)))
 go_loopg [7, 8] k (fun kq v7 v8 w' => ∃ (x7_1 : List Int) (x8_1 : Int) (x1001_1 : Int) (x1002_1 : Int), v8 = .int .i64 x8_1 ∧ Aside0 (spec_l03Draw.l0 kq x7_1 x8_1 s0_0 x1001_1 x1002_1 a1_0 l1_1 = some (r1, r2, r3)) ∧ Aside0 (kq ≤ k) ∧ Aside0 (Kd.R (Kd.int .i64) 2 w' w.heap.size (fun _ => True) v7 x7_1) ∧ Aside0 (w'.heap[gb486]? = some (.cells #[.int .i64 a1_0, (.slice A1_1 l1_1.length c1_1)] 29 (0, 0))) ∧ Aside0 (Z140 w0 w' g s0_0 x1001_1 x1002_1) ∧ Aside0 (KeepBut w w' g none) ∧ Aside0 (Below w0.heap.size w0 w'))
 case atStart => exact ⟨(y487), (t490), (t491), (t492), zs, H', ⟨Nat.le_refl _⟩, ⟨zP HO489.out⟩, ⟨zR BK486.out⟩, ⟨Z140.uB HI0.out NB0_486.out⟩, ⟨yB HK.out GW486.out⟩, ⟨zV HB.out (Z140.ge HI0.out) GE486.out⟩⟩
 case round =>
  clear H'
  try clear c1
  try clear c4
  try clear c8
  try clear c12
  try clear c14
  try clear hcz15_0
  try clear hcz15_1
  try clear hcz9_0
  try clear hcz9_1
  try clear hfz15_0
  try clear hfz15_1
  try clear hfz9_0
  try clear hfz9_1
  obtain ⟨x7_1, x8_1, x1001_1, x1002_1, rfl, HA, HK1, HO_7, BK486, HI0, HK, HB⟩ := hrel
  cases gk with
  | zero => exact absurd HA.out (by simp [spec_l03Draw.l0])
  | succ k1 =>
   have H := HA.out
   clear HA
   simp only [spec_l03Draw.l0] at H
   by_cases c17 : x8_1 > 0
   ·rw [if_pos c17] at H
    have c17b0 : decide (0 < x8_1) = true := decide_eq_true c17
    clear c17
    by_cases c18 : (x7_1.length : Int) > 0
    ·rw [if_pos c18] at H
     have c18b0 : decide (0 < (x7_1.length : Int)) = true := decide_eq_true c18
     have c18b1 : decide (0 < x7_1.length) = true := decide_eq_true (by omega)
     clear c18
     obtain ⟨⟨t493, t494, t495⟩, A19, H⟩ := zb H
     try dsimp only at H
     by_cases c20 : t493 = 0
     ·rw [if_pos c20] at H
      obtain ⟨c20b0, c20b1⟩ := zT1 c20
      clear c20
      obtain ⟨ji21, hji21⟩ : ∃ j_ : Int, (wrap64 ((x7_1.length : Int) - 1)) = j_ := ⟨_, rfl⟩
      replace H : (if 0 ≤ (ji21) then (if (ji21) < (x7_1.length : Int) then (if x7_1.length < 17592186044416 then (spec_l03Draw.l0 k1 (x7_1 ++ [rd x7_1 (ji21)]) (wrap64 (x8_1 - 1)) s0_0 t494 t495 a1_0 l1_1) else (none)) else (none)) else (none)) = some (r1, r2, r3) := by first | (rw [hji21] at H; exact H) | (simp only [hji21] at H ⊢; exact H)
      (try rw [hji21] at A19)
      have hji21w : (IntKind.i64.wrap ((x7_1.length : Int) - 1)) = ji21 := (i64_w _).trans hji21
      by_cases c22 : 0 ≤ (ji21)
      ·rw [if_pos c22] at H
       have c22b0 : decide (0 ≤ (ji21)) = true := decide_eq_true c22
       clear c22
       by_cases c23 : (ji21) < (x7_1.length : Int)
       ·rw [if_pos c23] at H
        have c23b0 : decide ((ji21) < (x7_1.length : Int)) = true := decide_eq_true c23
        clear c23
        by_cases c24 : x7_1.length < 17592186044416
        ·rw [if_pos c24] at H
         have LMc24 := zA c24
         clear c24
         obtain ⟨y497, hy497⟩ : ∃ y_ : List Int, y_ = (x7_1 ++ [rd x7_1 (ji21)]) := ⟨_, rfl⟩
         replace H : (spec_l03Draw.l0 k1 y497 (wrap64 (x8_1 - 1)) s0_0 t494 t495 a1_0 l1_1) = some (r1, r2, r3) := zy hy497 H
         have Ny497 := zA hy497
         clear hy497
         have H' := zA H
         clear H
         obtain ⟨Ao25, co25, eo25⟩ := kM HO_7.out
         subst eo25
         go_wp2_with (first | (go_at_call 128; (with_reducible refine (spec_l01Next.calls g s0_0 x1001_1 x1002_1 8 t493 t494 t495 w0 _ ?side1 ?side2 A19.out).mono ?_); (case side1 => exact Z140.uB HI0.out NB0_486.out); (case side2 => exact zV HB.out (Z140.ge HI0.out) GE486.out); rintro e w26 ⟨rfl, hi, hb, hk⟩; replace HO_7 := zA (zB9 (Z140.apart (show Z140 w0 _ g s0_0 x1001_1 x1002_1 from Z140.uB HI0.out NB0_486.out) (zP HO_7.out) (by decide)) hk); replace BK486 := zA (zB2 hk BK486.out NB486_0.out); replace HK := zA (kT (yB HK.out GW486.out) hk (.inl rfl)); replace HB := zA (hb); replace HI0 := zA (hi); (try clear hb); (try clear hk); (try clear hi); have p496 : 0 ≤ ((ji21) : Int) := zd; have q496 : (ji21) < (x7_1.length : Int) := zd; obtain ⟨ad496, e496, hx496_0⟩ := Kd.at_int (kB HO_7.out).2.2 (ji21) p496 q496; cases e496; replace p496 := eq_true p496; replace q496 := eq_true q496) | ((with_reducible refine gate_builtin (b := .append) (xs := #[.tmp 30, .tmp 37]) rfl ?_); at_builtin; refine Kd.R_append (Kd.int .i64) w.heap.size rfl (.tmp 30) (.tmp 37) 22 2 (.int .i64 0) 8 rfl Tryd.underlying22 info2 rfl (by decide) (by omega) (.slice (some ad496) x7_1.length co25) x7_1 (rd x7_1 (ji21)) [.int .i64 (rd x7_1 (ji21))] (fun _ => True) (fun _ => False) rfl rfl ?aP (fun _ hk => hk.elim) ?aF ?aO (kW _ _) ?aS ?aL ?_; (case aP => exact rfl); (case aF => exact (fun _ _ => trivial)); (case aO => exact (zP HO_7.out)); (case aS => exact (kX (w := w) (g := g) (row := none) (yB HK.out GW486.out))); (case aL => have := LMc24.out; omega); intro v498 w27 ho hb hg hat; rw [← Ny497.out] at ho; replace BK486 := zA (blk_grown (g := gb486) (o := .cells #[.int .i64 a1_0, .slice A1_1 l1_1.length c1_1] 29 (0, 0)) (zR BK486.out) hg (Kd.R_ne HO_7.out BK486.out (by decide))); replace HB := zA (below_weaken (zV HB.out (Z140.ge HI0.out) GE486.out) HL.out hb); replace HI0 := zA (Z140.grown (Z140.uB HI0.out NB0_486.out) hg (Z140.own_ne HI0.out HO_7.out (by decide))); replace HK := zA (kT (yB HK.out GW486.out) (KeepBut.of_grown hg g) (Kd.R_base2 HO_7.out)); have HO499 := zA (ho); clear HO_7; clear ho hb hg hat))
         go_roundg k1
         case measure => have := HK1.out; omega
         case rel => exact ⟨(y497), (wrap64 (x8_1 - 1)), (t494), (t495), zs, H', ⟨by have := HK1.out; omega⟩, ⟨zP HO499.out⟩, ⟨zR BK486.out⟩, ⟨Z140.uB HI0.out NB0_486.out⟩, ⟨yB HK.out GW486.out⟩, ⟨zV HB.out (Z140.ge HI0.out) GE486.out⟩⟩
        rw [if_neg c24] at H
        exact absurd H (by simp)
       rw [if_neg c23] at H
       exact absurd H (by simp)
      rw [if_neg c22] at H
      exact absurd H (by simp)
     rw [if_neg c20] at H
     obtain ⟨c20b0, c20b1⟩ := zT2 c20
     obtain ⟨⟨t500, t501, t502⟩, A28, H⟩ := zb H
     try dsimp only at H
     by_cases c29 : x7_1.length < 17592186044416
     ·rw [if_pos c29] at H
      have LMc29 := zA c29
      clear c29
      obtain ⟨y503, hy503⟩ : ∃ y_ : List Int, y_ = (x7_1 ++ [t500]) := ⟨_, rfl⟩
      replace H : (spec_l03Draw.l0 k1 y503 (wrap64 (x8_1 - 1)) s0_0 t501 t502 a1_0 l1_1) = some (r1, r2, r3) := zy hy503 H
      have Ny503 := zA hy503
      clear hy503
      have H' := zA H
      clear H
      obtain ⟨Ao30, co30, eo30⟩ := kM HO_7.out
      subst eo30
      go_wp2_with (first | (go_at_call 128; (with_reducible refine (spec_l01Next.calls g s0_0 x1001_1 x1002_1 8 t493 t494 t495 w0 _ ?side1 ?side2 A19.out).mono ?_); (case side1 => exact Z140.uB HI0.out NB0_486.out); (case side2 => exact zV HB.out (Z140.ge HI0.out) GE486.out); rintro e w31 ⟨rfl, hi, hb, hk⟩; replace HO_7 := zA (zB9 (Z140.apart (show Z140 w0 _ g s0_0 x1001_1 x1002_1 from Z140.uB HI0.out NB0_486.out) (zP HO_7.out) (by decide)) hk); replace BK486 := zA (zB2 hk BK486.out NB486_0.out); replace HK := zA (kT (yB HK.out GW486.out) hk (.inl rfl)); replace HB := zA (hb); replace HI0 := zA (hi); (try clear hb); (try clear hb2); (try clear hk); (try clear hi); (try clear hgw); have hnb32 := NB486_0.out; have hnc32 := NB0_486.out; obtain ⟨hcz33_0, hcz33_1, hfz33_0, hfz33_1⟩ := zB3 BK486.out) | (refine zO (some 43) Tryd.func128 #[.pointer (some ⟨g, 0, none⟩), .int .i64 a1_0] ?_; (with_reducible refine (spec_l01Next.calls g s0_0 t494 t495 a1_0 t500 t501 t502 w0 _ ?side1 ?side2 A28.out).mono ?_); (case side1 => exact Z140.uB HI0.out NB0_486.out); (case side2 => exact zV HB.out (Z140.ge HI0.out) GE486.out); rintro e w34 ⟨rfl, hi, hb, hk⟩; refine ⟨_, rfl, ?_⟩; replace HO_7 := zA (zB9 (Z140.apart (show Z140 w0 _ g s0_0 t494 t495 from Z140.uB HI0.out NB0_486.out) (zP HO_7.out) (by decide)) hk); replace BK486 := zA (zB2 hk BK486.out NB486_0.out); replace HK := zA (kT (yB HK.out GW486.out) hk (.inl rfl)); replace HB := zA (hb); replace HI0 := zA (hi); (try clear hb); (try clear hb2); (try clear hk); (try clear hi); (try clear hgw)) | ((with_reducible refine gate_builtin (b := .append) (xs := #[.tmp 39, .tmp 44]) rfl ?_); at_builtin; refine Kd.R_append (Kd.int .i64) w.heap.size rfl (.tmp 39) (.tmp 44) 22 2 (.int .i64 0) 8 rfl Tryd.underlying22 info2 rfl (by decide) (by omega) (.slice Ao30 x7_1.length co30) x7_1 t500 [.int .i64 t500] (fun _ => True) (fun _ => False) rfl rfl ?aP (fun _ hk => hk.elim) ?aF ?aO (kW _ _) ?aS ?aL ?_; (case aP => exact rfl); (case aF => exact (fun _ _ => trivial)); (case aO => exact (zP HO_7.out)); (case aS => exact (kX (w := w) (g := g) (row := none) (yB HK.out GW486.out))); (case aL => have := LMc29.out; omega); intro v504 w35 ho hb hg hat; rw [← Ny503.out] at ho; replace BK486 := zA (blk_grown (g := gb486) (o := .cells #[.int .i64 a1_0, .slice A1_1 l1_1.length c1_1] 29 (0, 0)) (zR BK486.out) hg (Kd.R_ne HO_7.out BK486.out (by decide))); replace HB := zA (below_weaken (zV HB.out (Z140.ge HI0.out) GE486.out) HL.out hb); replace HI0 := zA (Z140.grown (Z140.uB HI0.out NB0_486.out) hg (Z140.own_ne HI0.out HO_7.out (by decide))); replace HK := zA (kT (yB HK.out GW486.out) (KeepBut.of_grown hg g) (Kd.R_base2 HO_7.out)); have HO505 := zA (ho); clear HO_7; clear ho hb hg hat))
      go_roundg k1
      case measure => have := HK1.out; omega
      case rel => exact ⟨(y503), (wrap64 (x8_1 - 1)), (t501), (t502), zs, H', ⟨by have := HK1.out; omega⟩, ⟨zP HO505.out⟩, ⟨zR BK486.out⟩, ⟨Z140.uB HI0.out NB0_486.out⟩, ⟨yB HK.out GW486.out⟩, ⟨zV HB.out (Z140.ge HI0.out) GE486.out⟩⟩
     rw [if_neg c29] at H
     exact absurd H (by simp)
    rw [if_neg c18] at H
    have c18b0 : decide (0 < (x7_1.length : Int)) = false := decide_eq_false c18
    have c18b1 : decide (0 < x7_1.length) = false := decide_eq_false (by omega)
    clear c18
    obtain ⟨⟨t506, t507, t508⟩, A36, H⟩ := zb H
    try dsimp only at H
    by_cases c37 : x7_1.length < 17592186044416
    ·rw [if_pos c37] at H
     have LMc37 := zA c37
     clear c37
     obtain ⟨y509, hy509⟩ : ∃ y_ : List Int, y_ = (x7_1 ++ [t506]) := ⟨_, rfl⟩
     replace H : (spec_l03Draw.l0 k1 y509 (wrap64 (x8_1 - 1)) s0_0 t507 t508 a1_0 l1_1) = some (r1, r2, r3) := zy hy509 H
     have Ny509 := zA hy509
     clear hy509
     have H' := zA H
     clear H
     obtain ⟨Ao38, co38, eo38⟩ := kM HO_7.out
     subst eo38
     have hnb39 := NB486_0.out
     have hnc39 := NB0_486.out
     obtain ⟨hcz40_0, hcz40_1, hfz40_0, hfz40_1⟩ := zB3 BK486.out
     go_wp2_with (first | (refine zO (some 43) Tryd.func128 #[.pointer (some ⟨g, 0, none⟩), .int .i64 a1_0] ?_; (with_reducible refine (spec_l01Next.calls g s0_0 x1001_1 x1002_1 a1_0 t506 t507 t508 w0 _ ?side1 ?side2 A36.out).mono ?_); (case side1 => exact Z140.uB HI0.out NB0_486.out); (case side2 => exact zV HB.out (Z140.ge HI0.out) GE486.out); rintro e w41 ⟨rfl, hi, hb, hk⟩; refine ⟨_, rfl, ?_⟩; replace HO_7 := zA (zB9 (Z140.apart (show Z140 w0 _ g s0_0 x1001_1 x1002_1 from Z140.uB HI0.out NB0_486.out) (zP HO_7.out) (by decide)) hk); replace BK486 := zA (zB2 hk BK486.out NB486_0.out); replace HK := zA (kT (yB HK.out GW486.out) hk (.inl rfl)); replace HB := zA (hb); replace HI0 := zA (hi); (try clear hb); (try clear hk); (try clear hi)) | ((with_reducible refine gate_builtin (b := .append) (xs := #[.tmp 39, .tmp 44]) rfl ?_); at_builtin; refine Kd.R_append (Kd.int .i64) w.heap.size rfl (.tmp 39) (.tmp 44) 22 2 (.int .i64 0) 8 rfl Tryd.underlying22 info2 rfl (by decide) (by omega) (.slice Ao38 x7_1.length co38) x7_1 t506 [.int .i64 t506] (fun _ => True) (fun _ => False) rfl rfl ?aP (fun _ hk => hk.elim) ?aF ?aO (kW _ _) ?aS ?aL ?_; (case aP => exact rfl); (case aF => exact (fun _ _ => trivial)); (case aO => exact (zP HO_7.out)); (case aS => exact (kX (w := w) (g := g) (row := none) (yB HK.out GW486.out))); (case aL => have := LMc37.out; omega); intro v510 w42 ho hb hg hat; rw [← Ny509.out] at ho; replace BK486 := zA (blk_grown (g := gb486) (o := .cells #[.int .i64 a1_0, .slice A1_1 l1_1.length c1_1] 29 (0, 0)) (zR BK486.out) hg (Kd.R_ne HO_7.out BK486.out (by decide))); replace HB := zA (below_weaken (zV HB.out (Z140.ge HI0.out) GE486.out) HL.out hb); replace HI0 := zA (Z140.grown (Z140.uB HI0.out NB0_486.out) hg (Z140.own_ne HI0.out HO_7.out (by decide))); replace HK := zA (kT (yB HK.out GW486.out) (KeepBut.of_grown hg g) (Kd.R_base2 HO_7.out)); have HO511 := zA (ho); clear HO_7; clear ho hb hg hat))
     go_roundg k1
     case measure => have := HK1.out; omega
     case rel => exact ⟨(y509), (wrap64 (x8_1 - 1)), (t507), (t508), zs, H', ⟨by have := HK1.out; omega⟩, ⟨zP HO511.out⟩, ⟨zR BK486.out⟩, ⟨Z140.uB HI0.out NB0_486.out⟩, ⟨yB HK.out GW486.out⟩, ⟨zV HB.out (Z140.ge HI0.out) GE486.out⟩⟩
    rw [if_neg c37] at H
    exact absurd H (by simp)
   rw [if_neg c17] at H
   have c17b0 : decide (0 < x8_1) = false := decide_eq_false c17
   clear c17
   simp only [Option.some.injEq, Prod.mk.injEq] at H
   obtain ⟨rfl, rfl, rfl⟩ := H
   go_wp2
   go_ret
   exact ⟨_, zr, zP HO_7.out, by repeat (first | (with_reducible first | exact HI0.out | apply Z140.alloc | apply Z140.drewN | apply Z140.drew | apply Z140.set_1 | apply Z140.set_2 | refine Z140.far ?_ NB0_486.out _) | exact HI0.out), zV HB.out (Z140.ge HI0.out) GE486.out, by repeat (first | (with_reducible first | exact HK.out | apply KeepBut.set_ | apply keep_drewN | apply keep_drew | apply keep_alloc | refine keep_far ?_ GW486.out _) | exact HK.out)⟩

/-! ### spec_l03Spoil: function 173 -/
def spec_l03Spoil.l0 : Nat → List Int → List Int → Int → Int → Int → List Int → Option (List Int × Int × Int)
 | 0, _, _, _, _, _, _ => none
 | k + 1, x7, x1000, x1001, x1002, x513000, x513001 => if x513000 > 0 then (if (x7.length : Int) < 25 then ((spec_l01Next.f x1000 x1001 x1002 x513000).bind fun bt534 => (if x7.length < 17592186044416 then (spec_l03Spoil.l0 k (x7 ++ [bt534.1]) x1000 bt534.2.1 bt534.2.2 x513000 x513001) else (none))) else (some (x7, x1001, x1002))) else (some (x7, x1001, x1002))
def spec_l03Spoil.f (k : Nat) (s0_0 : List Int) (s0_1 : Int) (s0_2 : Int) (a1_0 : Int) (l1_1 : List Int) (a2 : Int) : Option (List Int × Int × Int) := (spec_l02Is.f k a1_0 l1_1).bind fun t513 => (if t513 = true then ((spec_l03Draw.f k s0_0 s0_1 s0_2 a1_0 l1_1 a2).bind fun bt517 => ((spec_l01Next.f s0_0 bt517.2.1 bt517.2.2 28).bind fun bt522 => (if bt522.1 = 0 then ((spec_l01Pick.f s0_0 bt522.2.1 bt522.2.2 (([(-1), a1_0, 1099511627776] : List Int))).bind fun bt528 => (if bt517.1.length < 17592186044416 then (some ((bt517.1 ++ [bt528.1]), bt528.2.1, bt528.2.2)) else (none))) else (if bt522.1 = 1 then (spec_l03Spoil.l0 k bt517.1 s0_0 bt522.2.1 bt522.2.2 a1_0 l1_1) else (some (bt517.1, bt522.2.1, bt522.2.2)))))) else (some ((([0, 1, 0] : List Int)), s0_1, s0_2)))

set_option maxHeartbeats 8000000 in
set_option maxRecDepth 100000 in
theorem spec_l03Spoil.calls (k : Nat) (g : Nat) (s0_0 : List Int) (s0_1 : Int) (s0_2 : Int) (a1_0 : Int) (A1_1 : Option Addr) (c1_1 : Nat) (l1_1 : List Int) (a2 : Int) (r1 : List Int) (r2 : Int) (r3 : Int) (w0 w : World) (hI : Z140 w0 w g s0_0 s0_1 s0_2) (hB : Below w0.heap.size w0 w) (hr1_1 : Kd.C (Kd.int .i64) w A1_1 l1_1.length l1_1) (hc1_1 : l1_1.length ≤ c1_1) (hf1_1 : ∀ ad, A1_1 = some ad → 0 < l1_1.length → ad.block ≠ g) (h : spec_l03Spoil.f k s0_0 s0_1 s0_2 a1_0 l1_1 a2 = some (r1, r2, r3)) :
  Calls Tryd.prog 173 #[.pointer (some ⟨g, 0, none⟩), .agg #[.int .i64 a1_0, .slice A1_1 l1_1.length c1_1], .int .i64 a2] w fun e w' => ∃ v0_ : Value, e = .returned (v0_) ∧ Kd.R (Kd.int .i64) 2 w' w.heap.size (fun _ => True) v0_ r1 ∧ Z140 w0 w' g s0_0 r2 r3 ∧ Below w0.heap.size w0 w' ∧ KeepBut w w' g none := by
 have hu29 := Tryd.underlying29
 have HR1_1 := zA hr1_1
 have HC1_1 := zA hc1_1
 clear hr1_1 hc1_1
 have HI0 := zA hI
 have HK := zA (KeepBut.refl w g none)
 have HL := zA hB.size
 clear hI
 have HW0 := zA hB.size
 have HB := zA hB
 clear hB
 have H := h
 unfold spec_l03Spoil.f at H
 clear h
 obtain ⟨t513, A4, H⟩ := zb H
 try dsimp only at H
 by_cases c5 : t513 = true
 ·subst c5
  rw [if_pos rfl] at H
  obtain ⟨⟨t517, t520, t521⟩, A6, H⟩ := zb H
  try dsimp only at H
  obtain ⟨⟨t522, t523, t524⟩, A7, H⟩ := zb H
  try dsimp only at H
  by_cases c8 : t522 = 0
  ·rw [if_pos c8] at H
   obtain ⟨c8b0, c8b1⟩ := zT1 c8
   clear c8
   obtain ⟨y525, hy525⟩ : ∃ y_ : List Int, y_ = (([(-1), a1_0, 1099511627776] : List Int)) := ⟨_, rfl⟩
   replace H : ((spec_l01Pick.f s0_0 t523 t524 y525).bind fun bt528 => (if t517.length < 17592186044416 then (some ((t517 ++ [bt528.1]), bt528.2.1, bt528.2.2)) else (none))) = some (r1, r2, r3) := zy hy525 H
   have Ny525 := zA hy525
   clear hy525
   obtain ⟨⟨t528, t529, t530⟩, A9, H⟩ := zb H
   try dsimp only at H
   by_cases c10 : t517.length < 17592186044416
   ·rw [if_pos c10] at H
    have LMc10 := zA c10
    clear c10
    obtain ⟨y531, hy531⟩ : ∃ y_ : List Int, y_ = (t517 ++ [t528]) := ⟨_, rfl⟩
    replace H : (some (y531, t529, t530)) = some (r1, r2, r3) := zy hy531 H
    have Ny531 := zA hy531
    clear hy531
    simp only [Option.some.injEq, Prod.mk.injEq] at H
    obtain ⟨rfl, rfl, rfl⟩ := H
    go_enter Tryd.func173, Tryd.ntmps173
    go_wp2_with (first | (refine zBE 4 #[.int .i64 a1_0, .slice A1_1 l1_1.length c1_1] 29 ?_; intro gb512 hg w11 hbox hb; replace HB := zA (kQ (zT HB.out (Z140.ge HI0.out)) hb); have BK512 := zA (hbox); have GW512 := zA (zB6 hg (kX (w := w) (g := g) (row := none) (yA HK.out)) : w.heap.size ≤ gb512); have GE512 := zA ((Nat.le_trans HW0.out (by rw [hg]; exact (kX (w := w) (g := g) (row := none) (yA HK.out)) : w.heap.size ≤ gb512) : w0.heap.size ≤ gb512)); replace HK := zA (kT (yA HK.out) (kU hb g none) (.inl rfl)); have NB0_512 := zA (zB7 hg (Z140.lt (show Z140 w0 _ g s0_0 s0_1 s0_2 from Z140.uA HI0.out)) : g ≠ gb512); have NB512_0 := zA (zB8 hg (Z140.lt (show Z140 w0 _ g s0_0 s0_1 s0_2 from Z140.uA HI0.out)) : gb512 ≠ g); replace HI0 := zA (Z140.below (Z140.uA HI0.out) hb); clear hb hbox hg; have hnb12 := NB512_0.out; have hnc12 := NB0_512.out; obtain ⟨hcz13_0, hcz13_1, hfz13_0, hfz13_1⟩ := zB3 BK512.out) | (refine zO (some 9) Tryd.func89 #[.agg #[.int .i64 a1_0, .slice A1_1 l1_1.length c1_1]] ?_; (with_reducible refine (spec_l02Is.calls k a1_0 _ _ l1_1 true _ ?side1 ?side2 A4.out).mono ?_); (case side1 => exact Kd.C_keep 0 HR1_1.out (yB HK.out GW512.out) hf1_1); (case side2 => exact HC1_1.out); rintro e w14 ⟨rfl, hb⟩; refine ⟨_, rfl, ?_⟩; replace BK512 := zA (zB1 BK512.out hb); replace HK := zA (kT (yB HK.out GW512.out) (kU hb g none) (.inl rfl)); replace HB := zA (kQ (zV HB.out (Z140.ge HI0.out) GE512.out) hb); replace HI0 := zA (Z140.below (Z140.uB HI0.out NB0_512.out) hb); (try clear hb); obtain ⟨hcz15_0, hcz15_1, hfz15_0, hfz15_1⟩ := zB3 BK512.out) | (refine zO (some 15) Tryd.func194 #[.pointer (some ⟨g, 0, none⟩), .agg #[.int .i64 a1_0, .slice A1_1 l1_1.length c1_1], .int .i64 a2] ?_; (with_reducible refine (spec_l03Draw.calls k g s0_0 s0_1 s0_2 a1_0 _ _ l1_1 a2 t517 t520 t521 w0 _ ?side1 ?side2 ?side3 ?side4 ?side5 A6.out).mono ?_); (case side1 => exact Z140.uB HI0.out NB0_512.out); (case side2 => exact zV HB.out (Z140.ge HI0.out) GE512.out); (case side3 => exact Kd.C_keep 0 HR1_1.out (yB HK.out GW512.out) hf1_1); (case side4 => exact HC1_1.out); (case side5 => exact hf1_1); rintro e w16 ⟨v518, rfl, ho0, hi, hb, hk⟩; refine ⟨_, rfl, ?_⟩; replace BK512 := zA (zB2 hk BK512.out NB512_0.out); have HO519 := zA (kI ho0 (kX (w := w) (g := g) (row := none) (yB HK.out GW512.out))); replace HK := zA (kT (yB HK.out GW512.out) hk (.inl rfl)); replace HB := zA (hb); replace HI0 := zA (hi); (try clear hb); (try clear hk); (try clear hi); (try clear ho0)) | (refine zO (some 17) Tryd.func128 #[.pointer (some ⟨g, 0, none⟩), .int .i64 28] ?_; (with_reducible refine (spec_l01Next.calls g s0_0 t520 t521 28 t522 t523 t524 w0 _ ?side1 ?side2 A7.out).mono ?_); (case side1 => exact Z140.uB HI0.out NB0_512.out); (case side2 => exact zV HB.out (Z140.ge HI0.out) GE512.out); rintro e w17 ⟨rfl, hi, hb, hk⟩; refine ⟨_, rfl, ?_⟩; replace BK512 := zA (zB2 hk BK512.out NB512_0.out); replace HO519 := zA (zB9 (Z140.apart (show Z140 w0 _ g s0_0 t520 t521 from Z140.uB HI0.out NB0_512.out) (zP HO519.out) (by decide)) hk); replace HK := zA (kT (yB HK.out GW512.out) hk (.inl rfl)); replace HB := zA (hb); replace HI0 := zA (hi); (try clear hb); (try clear hk); (try clear hi); obtain ⟨hcz18_0, hcz18_1, hfz18_0, hfz18_1⟩ := zB3 BK512.out) | ((with_reducible refine kS (N := 24) rfl ?_); refine Kd.R_lit (Kd.int .i64) _ 2 ?hg (N := 24) ?hd (xs := ([(-1), a1_0, 1099511627776] : List Int)) (inner := [.int .i64 (-1), .int .i64 a1_0, .int .i64 1099511627776]) (ok := fun _ => True) (okp := fun _ => True) ?hr ?hp (fun _ hk => hk) trivial (kW _ _) (Nat.le_refl _) (by simp) ?_; (case hd => rfl); (case hg => rfl); (case hr => first | (go_simp; done) | (go_simp; rfl)); (case hp => exact (Reps.one (show Kd.M (Kd.int .i64) _ _ _ (-1) [.int .i64 (-1)] from rfl) (Reps.one (show Kd.M (Kd.int .i64) _ _ _ a1_0 [.int .i64 a1_0] from rfl) (Reps.one (show Kd.M (Kd.int .i64) _ _ _ 1099511627776 [.int .i64 1099511627776] from rfl) (Reps.none _ _))))); intro v526 w19 ho20 hb hg_ hnew_; clear hg_ hnew_; (first | rw [← Ny525.out] at ho20 | (simp only [Int.reduceToNat] at ho20; rw [← Ny525.out] at ho20)); have HO527 := zA (kI (kF ho20 (kH (zP HO519.out))) (kX (w := w) (g := g) (row := none) (yB HK.out GW512.out))); replace HO519 := zA (kE (zP HO519.out) (kC ho20) hb); replace BK512 := zA (zB1 BK512.out hb); replace HK := zA (kT (yB HK.out GW512.out) (kU hb g none) (.inl rfl)); replace HB := zA (kQ (zV HB.out (Z140.ge HI0.out) GE512.out) hb); replace HI0 := zA (Z140.below (Z140.uB HI0.out NB0_512.out) hb); clear hb ho20; obtain ⟨Ao21, co21, eo21⟩ := kM HO527.out; subst eo21) | (refine zO (some 25) Tryd.func181 #[.pointer (some ⟨g, 0, none⟩), .slice Ao21 y525.length co21] ?_; (with_reducible refine (spec_l01Pick.calls g s0_0 t523 t524 _ _ y525 t528 t529 t530 w0 _ ?side1 ?side2 ?side3 ?side4 ?side5 A9.out).mono ?_); (case side1 => exact Z140.uB HI0.out NB0_512.out); (case side2 => exact zV HB.out (Z140.ge HI0.out) GE512.out); (case side3 => exact zS (kB HO527.out).2.2); (case side4 => exact (kB HO527.out).2.1); (case side5 => exact jJ (Z140.own_ne HI0.out HO527.out (by decide))); rintro e w22 ⟨rfl, hi, hb, hk⟩; refine ⟨_, rfl, ?_⟩; replace BK512 := zA (zB2 hk BK512.out NB512_0.out); replace HO519 := zA (zB9 (Z140.apart (show Z140 w0 _ g s0_0 t523 t524 from Z140.uB HI0.out NB0_512.out) (zP HO519.out) (by decide)) hk); replace HO527 := zA (zB9 (Z140.apart (show Z140 w0 _ g s0_0 t523 t524 from Z140.uB HI0.out NB0_512.out) (zP HO527.out) (by decide)) hk); replace HK := zA (kT (yB HK.out GW512.out) hk (.inl rfl)); replace HB := zA (hb); replace HI0 := zA (hi); (try clear hb); (try clear hk); (try clear hi)) | ((with_reducible refine gate_builtin (b := .append) (xs := #[.tmp 20, .tmp 26]) rfl ?_); at_builtin; refine Kd.R_append (Kd.int .i64) w.heap.size rfl (.tmp 20) (.tmp 26) 22 2 (.int .i64 0) 8 rfl Tryd.underlying22 info2 rfl (by decide) (by omega) v518 t517 t528 [.int .i64 t528] (fun k_ => some k_ ≠ (.slice Ao21 y525.length co21 : Value).ownBlock) (fun _ => False) rfl rfl ?aP (fun _ hk => hk.elim) ?aF ?aO (kW _ _) ?aS ?aL ?_; (case aP => exact rfl); (case aF => exact (fun k_ hk => jF (kH (zP HO527.out)) k_ hk)); (case aO => exact (by (with_reducible repeat (first | apply zF | apply zG | apply zH)); exact kA HO519.out (fun _ hk => hk.2))); (case aS => exact (kX (w := w) (g := g) (row := none) (yB HK.out GW512.out))); (case aL => have := LMc10.out; omega); intro v532 w23 ho hb hg hat; rw [← Ny531.out] at ho; replace BK512 := zA (blk_grown (g := gb512) (o := .cells #[.int .i64 a1_0, .slice A1_1 l1_1.length c1_1] 29 (0, 0)) (zR BK512.out) hg (Kd.R_ne HO519.out BK512.out (by decide))); replace HO527 := zA (Kd.R_after (ok := (fun _ => True)) (zP HO527.out) hg hat); replace HB := zA (below_weaken (zV HB.out (Z140.ge HI0.out) GE512.out) HL.out hb); replace HI0 := zA (Z140.grown (Z140.uB HI0.out NB0_512.out) hg (Z140.own_ne HI0.out HO519.out (by decide))); replace HK := zA (kT (yB HK.out GW512.out) (KeepBut.of_grown hg g) (Kd.R_base2 HO519.out)); have HO533 := zA (ho); clear HO519; clear ho hb hg hat))
    go_ret
    exact ⟨_, zr, by (with_reducible repeat (first | apply zF | apply zG | apply zH)); exact kA HO533.out (fun _ hk => trivial), by repeat (first | (with_reducible first | exact HI0.out | apply Z140.alloc | apply Z140.drewN | apply Z140.drew | apply Z140.set_1 | apply Z140.set_2 | refine Z140.far ?_ NB0_512.out _) | exact HI0.out), zV HB.out (Z140.ge HI0.out) GE512.out, by repeat (first | (with_reducible first | exact HK.out | apply KeepBut.set_ | apply keep_drewN | apply keep_drew | apply keep_alloc | refine keep_far ?_ GW512.out _) | exact HK.out)⟩
   rw [if_neg c10] at H
   exact absurd H (by simp)
  rw [if_neg c8] at H
  obtain ⟨c8b0, c8b1⟩ := zT2 c8
  by_cases c24 : t522 = 1
  ·rw [if_pos c24] at H
   obtain ⟨c24b0, c24b1⟩ := zT1 c24
   clear c24
   have H' := zA H
   clear H
   go_enter Tryd.func173, Tryd.ntmps173
   go_wp2_with (first | (refine zBE 4 #[.int .i64 a1_0, .slice A1_1 l1_1.length c1_1] 29 ?_; intro gb512 hg w25 hbox hb; replace HB := zA (kQ (zT HB.out (Z140.ge HI0.out)) hb); have BK512 := zA (hbox); have GW512 := zA (zB6 hg (kX (w := w) (g := g) (row := none) (yA HK.out)) : w.heap.size ≤ gb512); have GE512 := zA ((Nat.le_trans HW0.out (by rw [hg]; exact (kX (w := w) (g := g) (row := none) (yA HK.out)) : w.heap.size ≤ gb512) : w0.heap.size ≤ gb512)); replace HK := zA (kT (yA HK.out) (kU hb g none) (.inl rfl)); have NB0_512 := zA (zB7 hg (Z140.lt (show Z140 w0 _ g s0_0 s0_1 s0_2 from Z140.uA HI0.out)) : g ≠ gb512); have NB512_0 := zA (zB8 hg (Z140.lt (show Z140 w0 _ g s0_0 s0_1 s0_2 from Z140.uA HI0.out)) : gb512 ≠ g); replace HI0 := zA (Z140.below (Z140.uA HI0.out) hb); clear hb hbox hg; have hnb26 := NB512_0.out; have hnc26 := NB0_512.out; obtain ⟨hcz27_0, hcz27_1, hfz27_0, hfz27_1⟩ := zB3 BK512.out) | (refine zO (some 9) Tryd.func89 #[.agg #[.int .i64 a1_0, .slice A1_1 l1_1.length c1_1]] ?_; (with_reducible refine (spec_l02Is.calls k a1_0 _ _ l1_1 true _ ?side1 ?side2 A4.out).mono ?_); (case side1 => exact Kd.C_keep 0 HR1_1.out (yB HK.out GW512.out) hf1_1); (case side2 => exact HC1_1.out); rintro e w28 ⟨rfl, hb⟩; refine ⟨_, rfl, ?_⟩; replace BK512 := zA (zB1 BK512.out hb); replace HK := zA (kT (yB HK.out GW512.out) (kU hb g none) (.inl rfl)); replace HB := zA (kQ (zV HB.out (Z140.ge HI0.out) GE512.out) hb); replace HI0 := zA (Z140.below (Z140.uB HI0.out NB0_512.out) hb); (try clear hb); obtain ⟨hcz29_0, hcz29_1, hfz29_0, hfz29_1⟩ := zB3 BK512.out) | (refine zO (some 15) Tryd.func194 #[.pointer (some ⟨g, 0, none⟩), .agg #[.int .i64 a1_0, .slice A1_1 l1_1.length c1_1], .int .i64 a2] ?_; (with_reducible refine (spec_l03Draw.calls k g s0_0 s0_1 s0_2 a1_0 _ _ l1_1 a2 t517 t520 t521 w0 _ ?side1 ?side2 ?side3 ?side4 ?side5 A6.out).mono ?_); (case side1 => exact Z140.uB HI0.out NB0_512.out); (case side2 => exact zV HB.out (Z140.ge HI0.out) GE512.out); (case side3 => exact Kd.C_keep 0 HR1_1.out (yB HK.out GW512.out) hf1_1); (case side4 => exact HC1_1.out); (case side5 => exact hf1_1); rintro e w30 ⟨v518, rfl, ho0, hi, hb, hk⟩; refine ⟨_, rfl, ?_⟩; replace BK512 := zA (zB2 hk BK512.out NB512_0.out); have HO519 := zA (kI ho0 (kX (w := w) (g := g) (row := none) (yB HK.out GW512.out))); replace HK := zA (kT (yB HK.out GW512.out) hk (.inl rfl)); replace HB := zA (hb); replace HI0 := zA (hi); (try clear hb); (try clear hk); (try clear hi); (try clear ho0)) | (refine zO (some 17) Tryd.func128 #[.pointer (some ⟨g, 0, none⟩), .int .i64 28] ?_; (with_reducible refine (spec_l01Next.calls g s0_0 t520 t521 28 t522 t523 t524 w0 _ ?side1 ?side2 A7.out).mono ?_); (case side1 => exact Z140.uB HI0.out NB0_512.out); (case side2 => exact zV HB.out (Z140.ge HI0.out) GE512.out); rintro e w31 ⟨rfl, hi, hb, hk⟩; refine ⟨_, rfl, ?_⟩; replace BK512 := zA (zB2 hk BK512.out NB512_0.out); replace HO519 := zA (zB9 (Z140.apart (show Z140 w0 _ g s0_0 t520 t521 from Z140.uB HI0.out NB0_512.out) (zP HO519.out) (by decide)) hk); replace HK := zA (kT (yB HK.out GW512.out) hk (.inl rfl)); replace HB := zA (hb); replace HI0 := zA (hi); (try clear hb); (try clear hk); (try clear hi)))
   go_loopg [7] k (fun kq v7 w' => ∃ (x7_1 : List Int) (x1001_1 : Int) (x1002_1 : Int), Aside0 (spec_l03Spoil.l0 kq x7_1 s0_0 x1001_1 x1002_1 a1_0 l1_1 = some (r1, r2, r3)) ∧ Aside0 (kq ≤ k) ∧ Aside0 (Kd.R (Kd.int .i64) 2 w' w.heap.size (fun _ => True) v7 x7_1) ∧ Aside0 (w'.heap[gb512]? = some (.cells #[.int .i64 a1_0, (.slice A1_1 l1_1.length c1_1)] 29 (0, 0))) ∧ Aside0 (Z140 w0 w' g s0_0 x1001_1 x1002_1) ∧ Aside0 (KeepBut w w' g none) ∧ Aside0 (Below w0.heap.size w0 w'))
   case atStart => exact ⟨(t517), (t523), (t524), H', ⟨Nat.le_refl _⟩, ⟨zP HO519.out⟩, ⟨zR BK512.out⟩, ⟨Z140.uB HI0.out NB0_512.out⟩, ⟨yB HK.out GW512.out⟩, ⟨zV HB.out (Z140.ge HI0.out) GE512.out⟩⟩
   case round =>
    clear H'
    try clear c1
    try clear c2
    try clear c5
    try clear c8
    try clear c10
    try clear c12
    try clear c17
    try clear c18
    try clear c19
    try clear c24
    try clear c26
    try clear hcz13_0
    try clear hcz13_1
    try clear hcz15_0
    try clear hcz15_1
    try clear hcz18_0
    try clear hcz18_1
    try clear hcz27_0
    try clear hcz27_1
    try clear hcz29_0
    try clear hcz29_1
    try clear hfz13_0
    try clear hfz13_1
    try clear hfz15_0
    try clear hfz15_1
    try clear hfz18_0
    try clear hfz18_1
    try clear hfz27_0
    try clear hfz27_1
    try clear hfz29_0
    try clear hfz29_1
    obtain ⟨x7_1, x1001_1, x1002_1, HA, HK1, HO_7, BK512, HI0, HK, HB⟩ := hrel
    cases gk with
    | zero => exact absurd HA.out (by simp [spec_l03Spoil.l0])
    | succ k1 =>
     have H := HA.out
     clear HA
     simp only [spec_l03Spoil.l0] at H
     by_cases c32 : a1_0 > 0
     ·rw [if_pos c32] at H
      have c32b0 : decide (0 < a1_0) = true := decide_eq_true c32
      clear c32
      by_cases c33 : (x7_1.length : Int) < 25
      ·rw [if_pos c33] at H
       have c33b0 : decide ((x7_1.length : Int) < 25) = true := decide_eq_true c33
       have c33b1 : decide (x7_1.length < 25) = true := decide_eq_true (by omega)
       clear c33
       obtain ⟨⟨t534, t535, t536⟩, A34, H⟩ := zb H
       try dsimp only at H
       by_cases c35 : x7_1.length < 17592186044416
       ·rw [if_pos c35] at H
        have LMc35 := zA c35
        clear c35
        obtain ⟨y537, hy537⟩ : ∃ y_ : List Int, y_ = (x7_1 ++ [t534]) := ⟨_, rfl⟩
        replace H : (spec_l03Spoil.l0 k1 y537 s0_0 t535 t536 a1_0 l1_1) = some (r1, r2, r3) := zy hy537 H
        have Ny537 := zA hy537
        clear hy537
        have H' := zA H
        clear H
        have hnb36 := NB512_0.out
        have hnc36 := NB0_512.out
        obtain ⟨hcz37_0, hcz37_1, hfz37_0, hfz37_1⟩ := zB3 BK512.out
        obtain ⟨Ao38, co38, eo38⟩ := kM HO_7.out
        subst eo38
        go_wp2_with (first | (refine zO (some 42) Tryd.func128 #[.pointer (some ⟨g, 0, none⟩), .int .i64 a1_0] ?_; (with_reducible refine (spec_l01Next.calls g s0_0 x1001_1 x1002_1 a1_0 t534 t535 t536 w0 _ ?side1 ?side2 A34.out).mono ?_); (case side1 => exact Z140.uB HI0.out NB0_512.out); (case side2 => exact zV HB.out (Z140.ge HI0.out) GE512.out); rintro e w39 ⟨rfl, hi, hb, hk⟩; refine ⟨_, rfl, ?_⟩; replace HO_7 := zA (zB9 (Z140.apart (show Z140 w0 _ g s0_0 x1001_1 x1002_1 from Z140.uB HI0.out NB0_512.out) (zP HO_7.out) (by decide)) hk); replace BK512 := zA (zB2 hk BK512.out NB512_0.out); replace HK := zA (kT (yB HK.out GW512.out) hk (.inl rfl)); replace HB := zA (hb); replace HI0 := zA (hi); (try clear hb); (try clear hk); (try clear hi)) | ((with_reducible refine gate_builtin (b := .append) (xs := #[.tmp 38, .tmp 43]) rfl ?_); at_builtin; refine Kd.R_append (Kd.int .i64) w.heap.size rfl (.tmp 38) (.tmp 43) 22 2 (.int .i64 0) 8 rfl Tryd.underlying22 info2 rfl (by decide) (by omega) (.slice Ao38 x7_1.length co38) x7_1 t534 [.int .i64 t534] (fun _ => True) (fun _ => False) rfl rfl ?aP (fun _ hk => hk.elim) ?aF ?aO (kW _ _) ?aS ?aL ?_; (case aP => exact rfl); (case aF => exact (fun _ _ => trivial)); (case aO => exact (zP HO_7.out)); (case aS => exact (kX (w := w) (g := g) (row := none) (yB HK.out GW512.out))); (case aL => have := LMc35.out; omega); intro v538 w40 ho hb hg hat; rw [← Ny537.out] at ho; replace BK512 := zA (blk_grown (g := gb512) (o := .cells #[.int .i64 a1_0, .slice A1_1 l1_1.length c1_1] 29 (0, 0)) (zR BK512.out) hg (Kd.R_ne HO_7.out BK512.out (by decide))); replace HB := zA (below_weaken (zV HB.out (Z140.ge HI0.out) GE512.out) HL.out hb); replace HI0 := zA (Z140.grown (Z140.uB HI0.out NB0_512.out) hg (Z140.own_ne HI0.out HO_7.out (by decide))); replace HK := zA (kT (yB HK.out GW512.out) (KeepBut.of_grown hg g) (Kd.R_base2 HO_7.out)); have HO539 := zA (ho); clear HO_7; clear ho hb hg hat))
        go_roundg k1
        case measure => have := HK1.out; omega
        case rel => exact ⟨(y537), (t535), (t536), H', ⟨by have := HK1.out; omega⟩, ⟨zP HO539.out⟩, ⟨zR BK512.out⟩, ⟨Z140.uB HI0.out NB0_512.out⟩, ⟨yB HK.out GW512.out⟩, ⟨zV HB.out (Z140.ge HI0.out) GE512.out⟩⟩
       rw [if_neg c35] at H
       exact absurd H (by simp)
      rw [if_neg c33] at H
      have c33b0 : decide ((x7_1.length : Int) < 25) = false := decide_eq_false c33
      have c33b1 : decide (x7_1.length < 25) = false := decide_eq_false (by omega)
      clear c33
      simp only [Option.some.injEq, Prod.mk.injEq] at H
      obtain ⟨rfl, rfl, rfl⟩ := H
      have hnb41 := NB512_0.out
      have hnc41 := NB0_512.out
      obtain ⟨hcz42_0, hcz42_1, hfz42_0, hfz42_1⟩ := zB3 BK512.out
      obtain ⟨Ao43, co43, eo43⟩ := kM HO_7.out
      subst eo43
      go_wp2
      go_ret
      exact ⟨_, zr, zP HO_7.out, by repeat (first | (with_reducible first | exact HI0.out | apply Z140.alloc | apply Z140.drewN | apply Z140.drew | apply Z140.set_1 | apply Z140.set_2 | refine Z140.far ?_ NB0_512.out _) | exact HI0.out), zV HB.out (Z140.ge HI0.out) GE512.out, by repeat (first | (with_reducible first | exact HK.out | apply KeepBut.set_ | apply keep_drewN | apply keep_drew | apply keep_alloc | refine keep_far ?_ GW512.out _) | exact HK.out)⟩
     rw [if_neg c32] at H
     have c32b0 : decide (0 < a1_0) = false := decide_eq_false c32
     clear c32
     simp only [Option.some.injEq, Prod.mk.injEq] at H
     obtain ⟨rfl, rfl, rfl⟩ := H
     have hnb44 := NB512_0.out
     have hnc44 := NB0_512.out
     obtain ⟨hcz45_0, hcz45_1, hfz45_0, hfz45_1⟩ := zB3 BK512.out
     go_wp2
     go_ret
     exact ⟨_, zr, zP HO_7.out, by repeat (first | (with_reducible first | exact HI0.out | apply Z140.alloc | apply Z140.drewN | apply Z140.drew | apply Z140.set_1 | apply Z140.set_2 | refine Z140.far ?_ NB0_512.out _) | exact HI0.out), zV HB.out (Z140.ge HI0.out) GE512.out, by repeat (first | (with_reducible first | exact HK.out | apply KeepBut.set_ | apply keep_drewN | apply keep_drew | apply keep_alloc | refine keep_far ?_ GW512.out _) | exact HK.out)⟩
  rw [if_neg c24] at H
  obtain ⟨c24b0, c24b1⟩ := zT2 c24
  simp only [Option.some.injEq, Prod.mk.injEq] at H
  obtain ⟨rfl, rfl, rfl⟩ := H
  go_enter Tryd.func173, Tryd.ntmps173
  go_wp2_with (first | (refine zBE 4 #[.int .i64 a1_0, .slice A1_1 l1_1.length c1_1] 29 ?_; intro gb512 hg w46 hbox hb; replace HB := zA (kQ (zT HB.out (Z140.ge HI0.out)) hb); have BK512 := zA (hbox); have GW512 := zA (zB6 hg (kX (w := w) (g := g) (row := none) (yA HK.out)) : w.heap.size ≤ gb512); have GE512 := zA ((Nat.le_trans HW0.out (by rw [hg]; exact (kX (w := w) (g := g) (row := none) (yA HK.out)) : w.heap.size ≤ gb512) : w0.heap.size ≤ gb512)); replace HK := zA (kT (yA HK.out) (kU hb g none) (.inl rfl)); have NB0_512 := zA (zB7 hg (Z140.lt (show Z140 w0 _ g s0_0 s0_1 s0_2 from Z140.uA HI0.out)) : g ≠ gb512); have NB512_0 := zA (zB8 hg (Z140.lt (show Z140 w0 _ g s0_0 s0_1 s0_2 from Z140.uA HI0.out)) : gb512 ≠ g); replace HI0 := zA (Z140.below (Z140.uA HI0.out) hb); clear hb hbox hg; have hnb47 := NB512_0.out; have hnc47 := NB0_512.out; obtain ⟨hcz48_0, hcz48_1, hfz48_0, hfz48_1⟩ := zB3 BK512.out) | (refine zO (some 9) Tryd.func89 #[.agg #[.int .i64 a1_0, .slice A1_1 l1_1.length c1_1]] ?_; (with_reducible refine (spec_l02Is.calls k a1_0 _ _ l1_1 true _ ?side1 ?side2 A4.out).mono ?_); (case side1 => exact Kd.C_keep 0 HR1_1.out (yB HK.out GW512.out) hf1_1); (case side2 => exact HC1_1.out); rintro e w49 ⟨rfl, hb⟩; refine ⟨_, rfl, ?_⟩; replace BK512 := zA (zB1 BK512.out hb); replace HK := zA (kT (yB HK.out GW512.out) (kU hb g none) (.inl rfl)); replace HB := zA (kQ (zV HB.out (Z140.ge HI0.out) GE512.out) hb); replace HI0 := zA (Z140.below (Z140.uB HI0.out NB0_512.out) hb); (try clear hb); obtain ⟨hcz50_0, hcz50_1, hfz50_0, hfz50_1⟩ := zB3 BK512.out) | (refine zO (some 15) Tryd.func194 #[.pointer (some ⟨g, 0, none⟩), .agg #[.int .i64 a1_0, .slice A1_1 l1_1.length c1_1], .int .i64 a2] ?_; (with_reducible refine (spec_l03Draw.calls k g s0_0 s0_1 s0_2 a1_0 _ _ l1_1 a2 t517 t520 t521 w0 _ ?side1 ?side2 ?side3 ?side4 ?side5 A6.out).mono ?_); (case side1 => exact Z140.uB HI0.out NB0_512.out); (case side2 => exact zV HB.out (Z140.ge HI0.out) GE512.out); (case side3 => exact Kd.C_keep 0 HR1_1.out (yB HK.out GW512.out) hf1_1); (case side4 => exact HC1_1.out); (case side5 => exact hf1_1); rintro e w51 ⟨v518, rfl, ho0, hi, hb, hk⟩; refine ⟨_, rfl, ?_⟩; replace BK512 := zA (zB2 hk BK512.out NB512_0.out); have HO519 := zA (kI ho0 (kX (w := w) (g := g) (row := none) (yB HK.out GW512.out))); replace HK := zA (kT (yB HK.out GW512.out) hk (.inl rfl)); replace HB := zA (hb); replace HI0 := zA (hi); (try clear hb); (try clear hk); (try clear hi); (try clear ho0)) | (refine zO (some 17) Tryd.func128 #[.pointer (some ⟨g, 0, none⟩), .int .i64 28] ?_; (with_reducible refine (spec_l01Next.calls g s0_0 t520 t521 28 t522 t523 t524 w0 _ ?side1 ?side2 A7.out).mono ?_); (case side1 => exact Z140.uB HI0.out NB0_512.out); (case side2 => exact zV HB.out (Z140.ge HI0.out) GE512.out); rintro e w52 ⟨rfl, hi, hb, hk⟩; refine ⟨_, rfl, ?_⟩; replace BK512 := zA (zB2 hk BK512.out NB512_0.out); replace HO519 := zA (zB9 (Z140.apart (show Z140 w0 _ g s0_0 t520 t521 from Z140.uB HI0.out NB0_512.out) (zP HO519.out) (by decide)) hk); replace HK := zA (kT (yB HK.out GW512.out) hk (.inl rfl)); replace HB := zA (hb); replace HI0 := zA (hi); (try clear hb); (try clear hk); (try clear hi)))
  go_ret
  exact ⟨_, zr, zP HO519.out, by repeat (first | (with_reducible first | exact HI0.out | apply Z140.alloc | apply Z140.drewN | apply Z140.drew | apply Z140.set_1 | apply Z140.set_2 | refine Z140.far ?_ NB0_512.out _) | exact HI0.out), zV HB.out (Z140.ge HI0.out) GE512.out, by repeat (first | (with_reducible first | exact HK.out | apply KeepBut.set_ | apply keep_drewN | apply keep_drew | apply keep_alloc | refine keep_far ?_ GW512.out _) | exact HK.out)⟩
 replace c5 := Bool.eq_false_iff.mpr c5
 subst c5
 rw [if_neg (show ¬ (false = true) by decide)] at H
 obtain ⟨y514, hy514⟩ : ∃ y_ : List Int, y_ = (([0, 1, 0] : List Int)) := ⟨_, rfl⟩
 replace H : (some (y514, s0_1, s0_2)) = some (r1, r2, r3) := zy hy514 H
 have Ny514 := zA hy514
 clear hy514
 simp only [Option.some.injEq, Prod.mk.injEq] at H
 obtain ⟨rfl, rfl, rfl⟩ := H
 go_enter Tryd.func173, Tryd.ntmps173
 go_wp2_with (first | (refine zBE 4 #[.int .i64 a1_0, .slice A1_1 l1_1.length c1_1] 29 ?_; intro gb512 hg w53 hbox hb; replace HB := zA (kQ (zT HB.out (Z140.ge HI0.out)) hb); have BK512 := zA (hbox); have GW512 := zA (zB6 hg (kX (w := w) (g := g) (row := none) (yA HK.out)) : w.heap.size ≤ gb512); have GE512 := zA ((Nat.le_trans HW0.out (by rw [hg]; exact (kX (w := w) (g := g) (row := none) (yA HK.out)) : w.heap.size ≤ gb512) : w0.heap.size ≤ gb512)); replace HK := zA (kT (yA HK.out) (kU hb g none) (.inl rfl)); have NB0_512 := zA (zB7 hg (Z140.lt (show Z140 w0 _ g s0_0 s0_1 s0_2 from Z140.uA HI0.out)) : g ≠ gb512); have NB512_0 := zA (zB8 hg (Z140.lt (show Z140 w0 _ g s0_0 s0_1 s0_2 from Z140.uA HI0.out)) : gb512 ≠ g); replace HI0 := zA (Z140.below (Z140.uA HI0.out) hb); clear hb hbox hg; have hnb54 := NB512_0.out; have hnc54 := NB0_512.out; obtain ⟨hcz55_0, hcz55_1, hfz55_0, hfz55_1⟩ := zB3 BK512.out) | (refine zO (some 9) Tryd.func89 #[.agg #[.int .i64 a1_0, .slice A1_1 l1_1.length c1_1]] ?_; (with_reducible refine (spec_l02Is.calls k a1_0 _ _ l1_1 false _ ?side1 ?side2 A4.out).mono ?_); (case side1 => exact Kd.C_keep 0 HR1_1.out (yB HK.out GW512.out) hf1_1); (case side2 => exact HC1_1.out); rintro e w56 ⟨rfl, hb⟩; refine ⟨_, rfl, ?_⟩; replace BK512 := zA (zB1 BK512.out hb); replace HK := zA (kT (yB HK.out GW512.out) (kU hb g none) (.inl rfl)); replace HB := zA (kQ (zV HB.out (Z140.ge HI0.out) GE512.out) hb); replace HI0 := zA (Z140.below (Z140.uB HI0.out NB0_512.out) hb); (try clear hb)) | ((with_reducible refine kS (N := 11) rfl ?_); refine Kd.R_lit (Kd.int .i64) _ 2 ?hg (N := 11) ?hd (xs := ([0, 1, 0] : List Int)) (inner := [.int .i64 0, .int .i64 1, .int .i64 0]) (ok := fun _ => True) (okp := fun _ => True) ?hr ?hp (fun _ hk => hk) trivial (kW _ _) (Nat.le_refl _) (by simp) ?_; (case hd => rfl); (case hg => rfl); (case hr => first | (go_simp; done) | (go_simp; rfl)); (case hp => exact (Reps.one (show Kd.M (Kd.int .i64) _ _ _ 0 [.int .i64 0] from rfl) (Reps.one (show Kd.M (Kd.int .i64) _ _ _ 1 [.int .i64 1] from rfl) (Reps.one (show Kd.M (Kd.int .i64) _ _ _ 0 [.int .i64 0] from rfl) (Reps.none _ _))))); intro v515 w57 ho58 hb hg_ hnew_; clear hg_ hnew_; (first | rw [← Ny514.out] at ho58 | (simp only [Int.reduceToNat] at ho58; rw [← Ny514.out] at ho58)); have HO516 := zA (kI ho58 (kX (w := w) (g := g) (row := none) (yB HK.out GW512.out))); replace BK512 := zA (zB1 BK512.out hb); replace HK := zA (kT (yB HK.out GW512.out) (kU hb g none) (.inl rfl)); replace HB := zA (kQ (zV HB.out (Z140.ge HI0.out) GE512.out) hb); replace HI0 := zA (Z140.below (Z140.uB HI0.out NB0_512.out) hb); clear hb ho58))
 go_ret
 exact ⟨_, zr, zP HO516.out, by repeat (first | (with_reducible first | exact HI0.out | apply Z140.alloc | apply Z140.drewN | apply Z140.drew | apply Z140.set_1 | apply Z140.set_2 | refine Z140.far ?_ NB0_512.out _) | exact HI0.out), zV HB.out (Z140.ge HI0.out) GE512.out, by repeat (first | (with_reducible first | exact HK.out | apply KeepBut.set_ | apply keep_drewN | apply keep_drew | apply keep_alloc | refine keep_far ?_ GW512.out _) | exact HK.out)⟩

/-! ### spec_l03Pair: function 114 -/
def spec_l03Pair.f (k : Nat) (l0 : List Int) (a1 : Int) (a2 : Int) : Option (List Int × Int × Int × Int × List Int × List Int) := (spec_l01From.f k l0).bind fun bt541 => ((spec_l02Draw.f k bt541.1 bt541.2.1 bt541.2.2 a1).bind fun bt545 => ((spec_l01Next.f bt541.1 bt545.2.2.1 bt545.2.2.2 24).bind fun bt552 => (if bt552.1 = 0 then ((spec_l02Spoil.f k bt541.1 bt552.2.1 bt552.2.2 a1).bind fun bt555 => ((spec_l03Spoil.f k bt541.1 bt555.2.2.1 bt555.2.2.2 bt555.1 bt555.2.1 a2).bind fun bt561 => (some (bt541.1, bt561.2.1, bt561.2.2, bt555.1, bt555.2.1, bt561.1)))) else ((spec_l03Spoil.f k bt541.1 bt552.2.1 bt552.2.2 bt545.1 bt545.2.1 a2).bind fun bt566 => (some (bt541.1, bt566.2.1, bt566.2.2, bt545.1, bt545.2.1, bt566.1))))))

def spec_l03Pair.T5 : Bool × List (List Nat × List Nat) := (true, [([], []), ([], []), ([], []), ([], []), ([], []), ([2, 3, 4], [2, 3, 4]), ([0, 5, 0], [0]), ([1, 6, 0, 1, 6], [1]), ([5, 7, 0, 1, 2, 3, 4, 5, 6, 7], [5])])
def spec_l03Pair.B5 : List Nat := [0, 0, 0, 0, 0, 28, 61, 127, 255]
theorem spec_l03Pair.tab5 : rtab .any (opsOf Tryd.f114 5) = spec_l03Pair.T5 := by kernel_rfl
theorem spec_l03Pair.bits5 : waitsOk spec_l03Pair.T5.2 spec_l03Pair.B5 = true := by kernel_rfl
set_option maxHeartbeats 8000000 in
set_option maxRecDepth 100000 in
theorem spec_l03Pair.calls (k : Nat) (A0 : Option Addr) (c0 : Nat) (l0 : List Int) (a1 : Int) (a2 : Int) (r1 : List Int) (r2 : Int) (r3 : Int) (r4 : Int) (r5 : List Int) (r6 : List Int) (w0 w : World) (hB : Below w0.heap.size w0 w) (hr0 : Kd.C (Kd.int .u8) w0 A0 l0.length l0) (hc0 : l0.length ≤ c0) (h : spec_l03Pair.f k l0 a1 a2 = some (r1, r2, r3, r4, r5, r6)) :
  Calls Tryd.prog 114 #[.slice A0 l0.length c0, .int .i64 a1, .int .i64 a2] w fun e w' => ∃ v1_ v2_ : Value, ∃ g_ : Nat, e = .returned (.tuple #[.pointer (some ⟨g_, 0, none⟩), .agg #[.int .i64 r4, v1_], v2_]) ∧ Kd.R (Kd.int .i64) 2 w' w.heap.size (fun k_ => some k_ ≠ (v2_ : Value).ownBlock) v1_ r5 ∧ Kd.R (Kd.int .i64) 2 w' w.heap.size (fun k_ => some k_ ≠ (v1_ : Value).ownBlock) v2_ r6 ∧ Z140 w0 w' g_ r1 r2 r3 ∧ Below w0.heap.size w0 w' ∧ Below w.heap.size w w' ∧ w.heap.size ≤ g_ := by
 have hu29 := Tryd.underlying29
 have HR0 := zA hr0
 have HC0 := zA hc0
 clear hr0 hc0
 have HBW := zA (kW w.heap.size w)
 have HB00 := zA hB
 have HW0 := zA hB.size
 have HB := zA hB
 clear hB
 have H := h
 unfold spec_l03Pair.f at H
 clear h
 obtain ⟨⟨t541, t542, t543⟩, A4, H⟩ := zb H
 try dsimp only at H
 obtain ⟨⟨t545, t546, t549, t550⟩, A5, H⟩ := zb H
 try dsimp only at H
 obtain ⟨⟨t552, t553, t554⟩, A6, H⟩ := zb H
 try dsimp only at H
 by_cases c7 : t552 = 0
 ·rw [if_pos c7] at H
  obtain ⟨c7b0, c7b1⟩ := zT1 c7
  clear c7
  obtain ⟨⟨t555, t556, t559, t560⟩, A8, H⟩ := zb H
  try dsimp only at H
  obtain ⟨⟨t561, t564, t565⟩, A9, H⟩ := zb H
  try dsimp only at H
  simp only [Option.some.injEq, Prod.mk.injEq] at H
  obtain ⟨rfl, rfl, rfl, rfl, rfl, rfl⟩ := H
  go_enter Tryd.func114, Tryd.ntmps114
  try go_wp2_with (first | (refine zBE 7 #[.int .i64 0, .slice none 0 0] 29 ?_; intro gb540 hg w10 hbox hb; replace HB := zA (kQ (zQ HB.out) hb); have BK540 := zA (hbox); have GW540 := zA (zBH hg HBW.out); have GE540 := zA ((Nat.le_trans HW0.out (by rw [hg]; exact (kP (zQ HBW.out)) : w.heap.size ≤ gb540) : w0.heap.size ≤ gb540)); replace HBW := zA (kQ HBW.out hb); clear hb hbox hg) | (refine zO (some 12) Tryd.func130 #[.slice A0 l0.length c0] ?_; (with_reducible refine (spec_l01From.calls k _ _ l0 t541 t542 t543 w0 _ ?side1 ?side2 ?side3 A4.out).mono ?_); (case side1 => exact zT HB.out GE540.out); (case side2 => exact HR0.out); (case side3 => exact HC0.out); rintro e w11 ⟨g544, rfl, hi, hb, hb2, hgw⟩; refine ⟨_, rfl, ?_⟩; have GWS544 := zA ((Nat.le_trans (kP (zT HBW.out GW540.out)) hgw : w.heap.size ≤ g544)); replace HBW := zA (kQ (zT HBW.out GW540.out) hb2); replace HB := zA (hb); have HI544 := zA (hi); have NB544_540 := zA (Z140.ne_blk hi (blk_below (g := gb540) (o := .cells #[.int .i64 0, .slice none 0 0] 29 (0, 0)) (zR BK540.out) hb2) (by decide)); have NB540_544 := zA (Ne.symm (Z140.ne_blk hi (blk_below (g := gb540) (o := .cells #[.int .i64 0, .slice none 0 0] 29 (0, 0)) (zR BK540.out) hb2) (by decide))); replace BK540 := zA (zB1 BK540.out hb2); (try clear hb); (try clear hb2); (try clear hi); (try clear hgw)) | (refine zO (some 15) Tryd.func172 #[.pointer (some ⟨g544, 0, none⟩), .int .i64 a1] ?_; (with_reducible refine (spec_l02Draw.calls k g544 t541 t542 t543 a1 t545 t546 t549 t550 w0 _ ?side1 ?side2 A5.out).mono ?_); (case side1 => exact Z140.uB HI544.out NB544_540.out); (case side2 => exact zV HB.out (Z140.ge HI544.out) GE540.out); rintro e w12 ⟨v547, rfl, ho0, hi, hb, hk⟩; refine ⟨_, rfl, ?_⟩; replace BK540 := zA (zB2 hk BK540.out NB540_544.out); have HO548 := zA (kI ho0 (kP (zV HBW.out GWS544.out GW540.out))); replace HBW := zA (Z140.below_keepW HB00.out (zV HBW.out GWS544.out GW540.out) hk hb GWS544.out); replace HB := zA (hb); replace HI544 := zA (hi); (try clear hb); (try clear hk); (try clear hi); (try clear ho0)) | (refine zBE 10 #[.int .i64 0, .slice none 0 0] 29 ?_; intro gb551 hg w13 hbox hb; replace HO548 := zA (kL (zP HO548.out) hb); replace HB := zA (kQ (zV HB.out (Z140.ge HI544.out) GE540.out) hb); have BK551 := zA (hbox); have GW551 := zA (zB6 hg (kP (zV HBW.out GWS544.out GW540.out)) : w.heap.size ≤ gb551); have GE551 := zA ((Nat.le_trans HW0.out (by rw [hg]; exact (kP (zV HBW.out GWS544.out GW540.out)) : w.heap.size ≤ gb551) : w0.heap.size ≤ gb551)); replace HBW := zA (kQ HBW.out hb); have NB540_551 := zA (zB4 hg BK540.out : gb540 ≠ gb551); have NB551_540 := zA (zB5 hg BK540.out : gb551 ≠ gb540); replace BK540 := zA (zB1 BK540.out hb); have NB544_551 := zA (zB7 hg (Z140.lt (show Z140 w0 _ g544 t541 t549 t550 from Z140.uB HI544.out NB544_540.out)) : g544 ≠ gb551); have NB551_544 := zA (zB8 hg (Z140.lt (show Z140 w0 _ g544 t541 t549 t550 from Z140.uB HI544.out NB544_540.out)) : gb551 ≠ g544); replace HI544 := zA (Z140.below (Z140.uB HI544.out NB544_540.out) hb); clear hb hbox hg; have hnb14 := NB551_540.out; have hnc14 := NB540_551.out; have hnb15 := NB551_544.out; have hnc15 := NB544_551.out; obtain ⟨hcz16_0, hcz16_1, hfz16_0, hfz16_1⟩ := zB3 BK551.out; obtain ⟨Ao17, co17, eo17⟩ := kM HO548.out; subst eo17) | (refine zO (some 17) Tryd.func128 #[.pointer (some ⟨g544, 0, none⟩), .int .i64 24] ?_; (with_reducible refine (spec_l01Next.calls g544 t541 t549 t550 24 t552 t553 t554 w0 _ ?side1 ?side2 A6.out).mono ?_); (case side1 => exact Z140.uC HI544.out NB544_540.out NB544_551.out); (case side2 => exact zW HB.out (Z140.ge HI544.out) GE540.out GE551.out); rintro e w18 ⟨rfl, hi, hb, hk⟩; refine ⟨_, rfl, ?_⟩; replace BK540 := zA (KeepBut.blk hk (g' := gb540) (o := .cells #[.int .i64 0, .slice none 0 0] 29 (0, 0)) (zBG BK540.out NB540_551.out NB540_551.out) NB540_544.out (by simp)); replace HO548 := zA (kA (Kd.R_keep (Z140.apart (show Z140 w0 _ g544 t541 t549 t550 from Z140.uC HI544.out NB544_540.out NB544_551.out) (zP (zFG HO548.out BK551.out (.int .i64 t545) (.slice Ao17 t546.length co17))) (by decide)) hk (fun _ h => h.2)) (fun _ h => h.1)); replace BK551 := zA (KeepBut.blk hk (g' := gb551) (o := .cells #[.int .i64 t545, .slice Ao17 t546.length co17] 29 (0, 0)) (zRP BK551.out) NB551_544.out (by simp)); replace HBW := zA (Z140.below_keepW HB00.out (zW HBW.out GWS544.out GW540.out GW551.out) hk hb GWS544.out); replace HB := zA (hb); replace HI544 := zA (hi); (try clear hb); (try clear hk); (try clear hi)) | (refine zO (some 21) Tryd.func131 #[.pointer (some ⟨g544, 0, none⟩), .int .i64 a1] ?_; (with_reducible refine (spec_l02Spoil.calls k g544 t541 t553 t554 a1 t555 t556 t559 t560 w0 _ ?side1 ?side2 A8.out).mono ?_); (case side1 => exact Z140.uC HI544.out NB544_540.out NB544_551.out); (case side2 => exact zW HB.out (Z140.ge HI544.out) GE540.out GE551.out); rintro e w19 ⟨v557, rfl, ho0, hi, hb, hk⟩; refine ⟨_, rfl, ?_⟩; replace BK540 := zA (zB2 hk BK540.out NB540_544.out); replace BK551 := zA (zB2 hk BK551.out NB551_544.out); have HO558 := zA (kI (kF ho0 (kH (zP HO548.out))) (kP (zW HBW.out GWS544.out GW540.out GW551.out))); replace HO548 := zA (kA (Kd.R_told (Kd.R_oldK (Z140.apart (show Z140 w0 _ g544 t541 t553 t554 from Z140.uC HI544.out NB544_540.out NB544_551.out) (zP HO548.out) (by decide)) hk) (kC ho0)) (fun _ h_ => h_.1)); replace HBW := zA (Z140.below_keepW HB00.out (zW HBW.out GWS544.out GW540.out GW551.out) hk hb GWS544.out); replace HB := zA (hb); replace HI544 := zA (hi); (try clear hb); (try clear hk); (try clear hi); (try clear ho0); obtain ⟨hcz20_0, hcz20_1, hfz20_0, hfz20_1⟩ := zB3 BK551.out; obtain ⟨Ao21, co21, eo21⟩ := kM HO558.out; subst eo21))
  have n0_ : Aside0 (Kd.R (Kd.int .i64) 2 ((w19.setCell ⟨gb551, 0, none⟩ (.int .i64 t555)).setCell ⟨gb551, 1, none⟩ (.slice Ao21 t556.length co21)) w.heap.size (fun k_ => some k_ ≠ (.slice Ao21 t556.length co21 : Value).ownBlock) (.slice Ao17 t546.length co17) t546) := ⟨by (with_reducible repeat (first | apply zF | apply zG | apply zH)); exact kA (kY (p := ⟨gb551, 1, none⟩) (kY (p := ⟨gb551, 0, none⟩) (kD HO548.out BK551.out (by decide)) (fun _ hk => hk.2) (.int .i64 t555)) (fun _ hk => hk.2) (.slice Ao21 t556.length co21)) (fun _ hk => hk.1.2)⟩
  have n1_ : Aside0 (Kd.R (Kd.int .i64) 2 ((w19.setCell ⟨gb551, 0, none⟩ (.int .i64 t555)).setCell ⟨gb551, 1, none⟩ (.slice Ao21 t556.length co21)) w.heap.size (fun k_ => some k_ ≠ (.slice Ao17 t546.length co17 : Value).ownBlock) (.slice Ao21 t556.length co21) t556) := ⟨by (with_reducible repeat (first | apply zF | apply zG | apply zH)); exact kA (kY (p := ⟨gb551, 1, none⟩) (kY (p := ⟨gb551, 0, none⟩) (kD HO558.out BK551.out (by decide)) (fun _ hk => hk.2) (.int .i64 t555)) (fun _ hk => hk.2) (.slice Ao21 t556.length co21)) (fun _ hk => hk.1.2)⟩
  have n2_ : Aside0 (((w19.setCell ⟨gb551, 0, none⟩ (.int .i64 t555)).setCell ⟨gb551, 1, none⟩ (.slice Ao21 t556.length co21)).heap[gb540]? = some (.cells #[.int .i64 0, .slice none 0 0] 29 (0, 0))) := ⟨by (with_reducible repeat (first | refine zJ ?_ _ | refine zK ?_ | refine zI ?_ _)); refine blk_far ?_ NB540_551.out _; (with_reducible repeat (first | refine zJ ?_ _ | refine zK ?_ | refine zI ?_ _)); refine blk_far ?_ NB540_551.out _; (with_reducible repeat (first | refine zJ ?_ _ | refine zK ?_ | refine zI ?_ _)); exact BK540.out⟩
  have n3_ : Aside0 (((w19.setCell ⟨gb551, 0, none⟩ (.int .i64 t555)).setCell ⟨gb551, 1, none⟩ (.slice Ao21 t556.length co21)).heap[gb551]? = some (.cells #[.int .i64 t555, .slice Ao21 t556.length co21] 29 (0, 0))) := ⟨by (with_reducible repeat (first | refine zJ ?_ _ | refine zK ?_ | refine zI ?_ _)); refine blk_put (cs := #[.int .i64 t555, .slice Ao17 t546.length co17]) ?_ 1 _ rfl; (with_reducible repeat (first | refine zJ ?_ _ | refine zK ?_ | refine zI ?_ _)); refine blk_put (cs := #[.int .i64 t545, .slice Ao17 t546.length co17]) ?_ 0 _ rfl; (with_reducible repeat (first | refine zJ ?_ _ | refine zK ?_ | refine zI ?_ _)); exact BK551.out⟩
  have n4_ : Aside0 (Z140 w0 ((w19.setCell ⟨gb551, 0, none⟩ (.int .i64 t555)).setCell ⟨gb551, 1, none⟩ (.slice Ao21 t556.length co21)) g544 t541 t559 t560) := ⟨Z140.uC HI544.out NB544_540.out NB544_551.out⟩
  have n5_ : Aside0 (Below w0.heap.size w0 ((w19.setCell ⟨gb551, 0, none⟩ (.int .i64 t555)).setCell ⟨gb551, 1, none⟩ (.slice Ao21 t556.length co21))) := ⟨zW HB.out (Z140.ge HI544.out) GE540.out GE551.out⟩
  have n5w_ : Aside0 (Below w.heap.size w ((w19.setCell ⟨gb551, 0, none⟩ (.int .i64 t555)).setCell ⟨gb551, 1, none⟩ (.slice Ao21 t556.length co21))) := ⟨zW HBW.out GWS544.out GW540.out GW551.out⟩
  (try clear HO548)
  (try clear HO558)
  (try clear BK540)
  (try clear BK551)
  (try clear HI544)
  (try clear HB HBW)
  generalize ((w19.setCell ⟨gb551, 0, none⟩ (.int .i64 t555)).setCell ⟨gb551, 1, none⟩ (.slice Ao21 t556.length co21)) = w22 at n0_ n1_ n2_ n3_ n4_ n5_ n5w_ ⊢
  have HO548 := n0_
  have HO558 := n1_
  have BK540 := n2_
  have BK551 := n3_
  have HI544 := n4_
  have HB := n5_
  have HBW := n5w_
  clear n0_ n1_ n2_ n3_ n4_ n5_
  have n0_ := zA (zH HO548.out)
  have n1_ := zA (zH HO558.out)
  have n2_ := zA (zK BK540.out)
  have n3_ := zA (zK BK551.out)
  have n4_ := zA (Z140.drew HI544.out)
  have n5_ := zA (zD HB.out)
  have n5w_ := zA (zD HBW.out)
  clear HO548 HO558 BK540 BK551 HI544 HB HBW
  have HO548 := n0_
  have HO558 := n1_
  have BK540 := n2_
  have BK551 := n3_
  have HI544 := n4_
  have HB := n5_
  have HBW := n5w_
  clear n0_ n1_ n2_ n3_ n4_ n5_
  refine start_ (n := 9) (S := fun w' => w'.cell? ⟨gb551, 0, none⟩ = some (.int .i64 t555) ∧ w'.cell? ⟨gb551, 1, none⟩ = some (.slice Ao21 t556.length co21)) (ds := []) #[false, false, false, false, false, false, false, false, false] (by kernel_rfl) rfl rfl ⟨(kV BK551.out 0).trans rfl, (kV BK551.out 1).trans rfl⟩ (fun hHeld => ?_); refine with_tabW spec_l03Pair.tab5 spec_l03Pair.bits5 (fun HT_ HW_ => ?_)
  generalize w22.drew = w23 at HO548 HO558 BK540 BK551 HI544 HB HBW hHeld ⊢
  refine zp 0 (some 22) #[true, false, false, false, false, false, false, false, false] HT_.out ?_
  refine zp 2 (some 24) #[true, false, true, false, false, false, false, false, false] HT_.out ?_
  refine zp 4 (some 26) #[true, false, true, false, true, false, false, false, false] HT_.out ?_
  refine zc 1 (some 23) #[true, true, true, false, true, false, false, false, false] HT_.out HW_.out hHeld ?_
  refine zc 3 (some 25) #[true, true, true, true, true, false, false, false, false] HT_.out HW_.out hHeld ?_
  refine one_ (i := 5) (N := some 27) #[true, true, true, true, true, true, false, false, false] rfl rfl (one_of HT_.out (by kernel_rfl)) (by decide) (fun K hK => ?_)
  refine goes_ Tryd.func173 (by kernel_rfl) rfl #[.pointer (some ⟨g544, 0, none⟩), .agg #[.int .i64 t555, .slice Ao21 t556.length co21], .int .i64 a2] (by rfl) rfl rfl zg ?_
  with_reducible refine (spec_l03Spoil.calls k g544 t541 t559 t560 t555 _ _ t556 a2 t561 t564 t565 w0 _ ?side1 ?side2 ?side3 ?side4 ?side5 A9.out).mono ?_
  (case side1 => exact Z140.uC HI544.out NB544_540.out NB544_551.out)
  (case side2 => exact zW HB.out (Z140.ge HI544.out) GE540.out GE551.out)
  (case side3 => exact zS (kB HO558.out).2.2)
  (case side4 => exact (kB HO558.out).2.1)
  (case side5 => exact jJ (Z140.own_ne HI544.out HO558.out (by decide)))
  rintro e w24 ⟨v562, rfl, ho0, hi, hb, hk⟩
  refine ⟨_, rfl, ?_⟩
  replace BK540 := zA (zB2 hk BK540.out NB540_544.out)
  replace BK551 := zA (zB2 hk BK551.out NB551_544.out)
  have HO563 := zA (kI (kF (kF ho0 (kH (zP HO548.out))) (kH (zP HO558.out))) (kP (zW HBW.out GWS544.out GW540.out GW551.out)))
  replace HO548 := zA (kA (Kd.R_told (Kd.R_oldK (Z140.apart (show Z140 w0 _ g544 t541 t559 t560 from Z140.uC HI544.out NB544_540.out NB544_551.out) (zP HO548.out) (by decide)) hk) (kC ho0)) (fun _ h_ => h_.1))
  replace HO558 := zA (kA (Kd.R_told (Kd.R_oldK (Z140.apart (show Z140 w0 _ g544 t541 t559 t560 from Z140.uC HI544.out NB544_540.out NB544_551.out) (zP HO558.out) (by decide)) hk) (kC ho0)) (fun _ h_ => h_.1))
  replace HBW := zA (Z140.below_keepW HB00.out (zW HBW.out GWS544.out GW540.out GW551.out) hk hb GWS544.out)
  replace HB := zA (hb)
  replace HI544 := zA (hi)
  (try clear hb)
  (try clear hb2)
  (try clear hk)
  (try clear hi)
  (try clear hgw)
  (try clear ho0)
  refine hK.out _ _ ⟨(kV BK551.out 0).trans rfl, (kV BK551.out 1).trans rfl⟩ (fun hHeld => ?_)
  clear hK K
  refine norm_ (a' := ?_) ?_ ?_
  rotate_left
  ·show Act.put _ (some 27) _ = _
   simp only [Act.put, zL, zM, zN, i64_w, i32_w]
   rfl
  refine zp 6 (some 6) #[true, true, true, true, true, true, true, false, false] HT_.out ?_
  refine one_ (i := 7) (N := none) #[true, true, true, true, true, true, true, true, false] rfl rfl (one_of HT_.out (by kernel_rfl)) (by decide) (fun K hK => ?_)
  have hs25 : w24.cell? ⟨gb540, 0, none⟩ = some (.int .i64 0) := (kV BK540.out 0).trans rfl
  have hfs25 := jH BK540.out 0
  have hns25_1 := NB551_540.out
  have hms25_1 := NB540_551.out
  have hs26 : w24.cell? ⟨gb540, 1, none⟩ = some (.slice none 0 0) := (kV BK540.out 1).trans rfl
  have hfs26 := jH BK540.out 1
  have hns26_1 := NB551_540.out
  have hms26_1 := NB540_551.out
  refine skip_ (w1 := ?_) (by rfl) rfl ?_ ?_
  rotate_left
  ·go_simp
   rfl
  refine hK.out _ _ ⟨((cell_far (p := ⟨gb540, _, none⟩) NB551_540.out _).trans (((cell_far (p := ⟨gb540, _, none⟩) NB551_540.out _).trans (hHeld.1)))), ((cell_far (p := ⟨gb540, _, none⟩) NB551_540.out _).trans (((cell_far (p := ⟨gb540, _, none⟩) NB551_540.out _).trans (hHeld.2))))⟩ (fun hHeld => ?_)
  clear hK K
  refine zp 8 (some 8) #[true, true, true, true, true, true, true, true, true] HT_.out ?_
  refine done_ (done_of HT_.out (by kernel_rfl)) ?_
  try go_wp2
  refine bodyPost_ret (results_list (rs := [.tmp 6, .cell 7 29, .tmp 8]) rfl (by simp) (.tmp (.cell gb540 29 #[.int .i64 t555, .slice Ao21 t556.length co21] (0, 0) _ rfl (zRP BK540.out) Tryd.underlying29 rfl (by kernel_rfl) (.tmp .nil)))) rfl ?_
  exact ⟨_, _, _, zr, by (with_reducible repeat (first | apply zF | apply zG | apply zH)); exact kA (kY (p := ⟨gb540, 1, none⟩) (kY (p := ⟨gb540, 0, none⟩) (kD HO558.out BK540.out (by decide)) (fun _ hk => hk.2) (.int .i64 t555)) (fun _ hk => hk.2) (.slice Ao21 t556.length co21)) (fun _ hk => hk.1.2), by (with_reducible repeat (first | apply zF | apply zG | apply zH)); exact kA (kY (p := ⟨gb540, 1, none⟩) (kY (p := ⟨gb540, 0, none⟩) (kD HO563.out BK540.out (by decide)) (fun _ hk => hk.2) (.int .i64 t555)) (fun _ hk => hk.2) (.slice Ao21 t556.length co21)) (fun _ hk => hk.1.2), (show Z140 w0 _ g544 t541 t564 t565 from Z140.uC HI544.out NB544_540.out NB544_551.out), zW HB.out (Z140.ge HI544.out) GE540.out GE551.out, zW HBW.out GWS544.out GW540.out GW551.out, GWS544.out⟩
 rw [if_neg c7] at H
 obtain ⟨c7b0, c7b1⟩ := zT2 c7
 obtain ⟨⟨t566, t569, t570⟩, A27, H⟩ := zb H
 try dsimp only at H
 simp only [Option.some.injEq, Prod.mk.injEq] at H
 obtain ⟨rfl, rfl, rfl, rfl, rfl, rfl⟩ := H
 go_enter Tryd.func114, Tryd.ntmps114
 try go_wp2_with (first | (refine zBE 7 #[.int .i64 0, .slice none 0 0] 29 ?_; intro gb540 hg w28 hbox hb; replace HB := zA (kQ (zQ HB.out) hb); have BK540 := zA (hbox); have GW540 := zA (zBH hg HBW.out); have GE540 := zA ((Nat.le_trans HW0.out (by rw [hg]; exact (kP (zQ HBW.out)) : w.heap.size ≤ gb540) : w0.heap.size ≤ gb540)); replace HBW := zA (kQ HBW.out hb); clear hb hbox hg) | (refine zO (some 12) Tryd.func130 #[.slice A0 l0.length c0] ?_; (with_reducible refine (spec_l01From.calls k _ _ l0 t541 t542 t543 w0 _ ?side1 ?side2 ?side3 A4.out).mono ?_); (case side1 => exact zT HB.out GE540.out); (case side2 => exact HR0.out); (case side3 => exact HC0.out); rintro e w29 ⟨g544, rfl, hi, hb, hb2, hgw⟩; refine ⟨_, rfl, ?_⟩; have GWS544 := zA ((Nat.le_trans (kP (zT HBW.out GW540.out)) hgw : w.heap.size ≤ g544)); replace HBW := zA (kQ (zT HBW.out GW540.out) hb2); replace HB := zA (hb); have HI544 := zA (hi); have NB544_540 := zA (Z140.ne_blk hi (blk_below (g := gb540) (o := .cells #[.int .i64 0, .slice none 0 0] 29 (0, 0)) (zR BK540.out) hb2) (by decide)); have NB540_544 := zA (Ne.symm (Z140.ne_blk hi (blk_below (g := gb540) (o := .cells #[.int .i64 0, .slice none 0 0] 29 (0, 0)) (zR BK540.out) hb2) (by decide))); replace BK540 := zA (zB1 BK540.out hb2); (try clear hb); (try clear hb2); (try clear hi); (try clear hgw)) | (refine zO (some 15) Tryd.func172 #[.pointer (some ⟨g544, 0, none⟩), .int .i64 a1] ?_; (with_reducible refine (spec_l02Draw.calls k g544 t541 t542 t543 a1 t545 t546 t549 t550 w0 _ ?side1 ?side2 A5.out).mono ?_); (case side1 => exact Z140.uB HI544.out NB544_540.out); (case side2 => exact zV HB.out (Z140.ge HI544.out) GE540.out); rintro e w30 ⟨v547, rfl, ho0, hi, hb, hk⟩; refine ⟨_, rfl, ?_⟩; replace BK540 := zA (zB2 hk BK540.out NB540_544.out); have HO548 := zA (kI ho0 (kP (zV HBW.out GWS544.out GW540.out))); replace HBW := zA (Z140.below_keepW HB00.out (zV HBW.out GWS544.out GW540.out) hk hb GWS544.out); replace HB := zA (hb); replace HI544 := zA (hi); (try clear hb); (try clear hk); (try clear hi); (try clear ho0)) | (refine zBE 10 #[.int .i64 0, .slice none 0 0] 29 ?_; intro gb551 hg w31 hbox hb; replace HO548 := zA (kL (zP HO548.out) hb); replace HB := zA (kQ (zV HB.out (Z140.ge HI544.out) GE540.out) hb); have BK551 := zA (hbox); have GW551 := zA (zB6 hg (kP (zV HBW.out GWS544.out GW540.out)) : w.heap.size ≤ gb551); have GE551 := zA ((Nat.le_trans HW0.out (by rw [hg]; exact (kP (zV HBW.out GWS544.out GW540.out)) : w.heap.size ≤ gb551) : w0.heap.size ≤ gb551)); replace HBW := zA (kQ HBW.out hb); have NB540_551 := zA (zB4 hg BK540.out : gb540 ≠ gb551); have NB551_540 := zA (zB5 hg BK540.out : gb551 ≠ gb540); replace BK540 := zA (zB1 BK540.out hb); have NB544_551 := zA (zB7 hg (Z140.lt (show Z140 w0 _ g544 t541 t549 t550 from Z140.uB HI544.out NB544_540.out)) : g544 ≠ gb551); have NB551_544 := zA (zB8 hg (Z140.lt (show Z140 w0 _ g544 t541 t549 t550 from Z140.uB HI544.out NB544_540.out)) : gb551 ≠ g544); replace HI544 := zA (Z140.below (Z140.uB HI544.out NB544_540.out) hb); clear hb hbox hg; have hnb32 := NB551_540.out; have hnc32 := NB540_551.out; have hnb33 := NB551_544.out; have hnc33 := NB544_551.out; obtain ⟨hcz34_0, hcz34_1, hfz34_0, hfz34_1⟩ := zB3 BK551.out; obtain ⟨Ao35, co35, eo35⟩ := kM HO548.out; subst eo35) | (refine zO (some 17) Tryd.func128 #[.pointer (some ⟨g544, 0, none⟩), .int .i64 24] ?_; (with_reducible refine (spec_l01Next.calls g544 t541 t549 t550 24 t552 t553 t554 w0 _ ?side1 ?side2 A6.out).mono ?_); (case side1 => exact Z140.uC HI544.out NB544_540.out NB544_551.out); (case side2 => exact zW HB.out (Z140.ge HI544.out) GE540.out GE551.out); rintro e w36 ⟨rfl, hi, hb, hk⟩; refine ⟨_, rfl, ?_⟩; replace BK540 := zA (KeepBut.blk hk (g' := gb540) (o := .cells #[.int .i64 0, .slice none 0 0] 29 (0, 0)) (zBG BK540.out NB540_551.out NB540_551.out) NB540_544.out (by simp)); replace HO548 := zA (kA (Kd.R_keep (Z140.apart (show Z140 w0 _ g544 t541 t549 t550 from Z140.uC HI544.out NB544_540.out NB544_551.out) (zP (zFG HO548.out BK551.out (.int .i64 t545) (.slice Ao35 t546.length co35))) (by decide)) hk (fun _ h => h.2)) (fun _ h => h.1)); replace BK551 := zA (KeepBut.blk hk (g' := gb551) (o := .cells #[.int .i64 t545, .slice Ao35 t546.length co35] 29 (0, 0)) (zRP BK551.out) NB551_544.out (by simp)); replace HBW := zA (Z140.below_keepW HB00.out (zW HBW.out GWS544.out GW540.out GW551.out) hk hb GWS544.out); replace HB := zA (hb); replace HI544 := zA (hi); (try clear hb); (try clear hk); (try clear hi)))
 have n0_ := zA (zH HO548.out)
 have n1_ := zA (zK BK540.out)
 have n2_ := zA (zK BK551.out)
 have n3_ := zA (Z140.drew HI544.out)
 have n4_ := zA (zD HB.out)
 have n4w_ := zA (zD HBW.out)
 clear HO548 BK540 BK551 HI544 HB HBW
 have HO548 := n0_
 have BK540 := n1_
 have BK551 := n2_
 have HI544 := n3_
 have HB := n4_
 have HBW := n4w_
 clear n0_ n1_ n2_ n3_ n4_
 refine start_ (n := 9) (S := fun w' => w'.cell? ⟨gb551, 0, none⟩ = some (.int .i64 t545) ∧ w'.cell? ⟨gb551, 1, none⟩ = some (.slice Ao35 t546.length co35)) (ds := []) #[false, false, false, false, false, false, false, false, false] (by kernel_rfl) rfl rfl ⟨(kV BK551.out 0).trans rfl, (kV BK551.out 1).trans rfl⟩ (fun hHeld => ?_); refine with_tabW spec_l03Pair.tab5 spec_l03Pair.bits5 (fun HT_ HW_ => ?_)
 generalize w36.drew = w37 at HO548 BK540 BK551 HI544 HB HBW hHeld ⊢
 refine zp 0 (some 22) #[true, false, false, false, false, false, false, false, false] HT_.out ?_
 refine zp 2 (some 24) #[true, false, true, false, false, false, false, false, false] HT_.out ?_
 refine zp 4 (some 26) #[true, false, true, false, true, false, false, false, false] HT_.out ?_
 refine zc 1 (some 23) #[true, true, true, false, true, false, false, false, false] HT_.out HW_.out hHeld ?_
 refine zc 3 (some 25) #[true, true, true, true, true, false, false, false, false] HT_.out HW_.out hHeld ?_
 refine one_ (i := 5) (N := some 27) #[true, true, true, true, true, true, false, false, false] rfl rfl (one_of HT_.out (by kernel_rfl)) (by decide) (fun K hK => ?_)
 refine goes_ Tryd.func173 (by kernel_rfl) rfl #[.pointer (some ⟨g544, 0, none⟩), .agg #[.int .i64 t545, .slice Ao35 t546.length co35], .int .i64 a2] (by rfl) rfl rfl zg ?_
 with_reducible refine (spec_l03Spoil.calls k g544 t541 t553 t554 t545 _ _ t546 a2 t566 t569 t570 w0 _ ?side1 ?side2 ?side3 ?side4 ?side5 A27.out).mono ?_
 (case side1 => exact Z140.uC HI544.out NB544_540.out NB544_551.out)
 (case side2 => exact zW HB.out (Z140.ge HI544.out) GE540.out GE551.out)
 (case side3 => exact zS (kB HO548.out).2.2)
 (case side4 => exact (kB HO548.out).2.1)
 (case side5 => exact jJ (Z140.own_ne HI544.out HO548.out (by decide)))
 rintro e w38 ⟨v567, rfl, ho0, hi, hb, hk⟩
 refine ⟨_, rfl, ?_⟩
 replace BK540 := zA (zB2 hk BK540.out NB540_544.out)
 replace BK551 := zA (zB2 hk BK551.out NB551_544.out)
 have HO568 := zA (kI (kF ho0 (kH (zP HO548.out))) (kP (zW HBW.out GWS544.out GW540.out GW551.out)))
 replace HO548 := zA (kA (Kd.R_told (Kd.R_oldK (Z140.apart (show Z140 w0 _ g544 t541 t553 t554 from Z140.uC HI544.out NB544_540.out NB544_551.out) (zP HO548.out) (by decide)) hk) (kC ho0)) (fun _ h_ => h_.1))
 replace HBW := zA (Z140.below_keepW HB00.out (zW HBW.out GWS544.out GW540.out GW551.out) hk hb GWS544.out)
 replace HB := zA (hb)
 replace HI544 := zA (hi)
 (try clear hb)
 (try clear hb2)
 (try clear hk)
 (try clear hi)
 (try clear hgw)
 (try clear ho0)
 refine hK.out _ _ ⟨(kV BK551.out 0).trans rfl, (kV BK551.out 1).trans rfl⟩ (fun hHeld => ?_)
 clear hK K
 refine norm_ (a' := ?_) ?_ ?_
 rotate_left
 ·show Act.put _ (some 27) _ = _
  simp only [Act.put, zL, zM, zN, i64_w, i32_w]
  rfl
 refine zp 6 (some 6) #[true, true, true, true, true, true, true, false, false] HT_.out ?_
 refine one_ (i := 7) (N := none) #[true, true, true, true, true, true, true, true, false] rfl rfl (one_of HT_.out (by kernel_rfl)) (by decide) (fun K hK => ?_)
 have hs39 : w38.cell? ⟨gb540, 0, none⟩ = some (.int .i64 0) := (kV BK540.out 0).trans rfl
 have hfs39 := jH BK540.out 0
 have hns39_1 := NB551_540.out
 have hms39_1 := NB540_551.out
 have hs40 : w38.cell? ⟨gb540, 1, none⟩ = some (.slice none 0 0) := (kV BK540.out 1).trans rfl
 have hfs40 := jH BK540.out 1
 have hns40_1 := NB551_540.out
 have hms40_1 := NB540_551.out
 refine skip_ (w1 := ?_) (by rfl) rfl ?_ ?_
 rotate_left
 ·go_simp
  rfl
 refine hK.out _ _ ⟨((cell_far (p := ⟨gb540, _, none⟩) NB551_540.out _).trans (((cell_far (p := ⟨gb540, _, none⟩) NB551_540.out _).trans (hHeld.1)))), ((cell_far (p := ⟨gb540, _, none⟩) NB551_540.out _).trans (((cell_far (p := ⟨gb540, _, none⟩) NB551_540.out _).trans (hHeld.2))))⟩ (fun hHeld => ?_)
 clear hK K
 refine zp 8 (some 8) #[true, true, true, true, true, true, true, true, true] HT_.out ?_
 refine done_ (done_of HT_.out (by kernel_rfl)) ?_
 try go_wp2
 refine bodyPost_ret (results_list (rs := [.tmp 6, .cell 7 29, .tmp 8]) rfl (by simp) (.tmp (.cell gb540 29 #[.int .i64 t545, .slice Ao35 t546.length co35] (0, 0) _ rfl (zRP BK540.out) Tryd.underlying29 rfl (by kernel_rfl) (.tmp .nil)))) rfl ?_
 exact ⟨_, _, _, zr, by (with_reducible repeat (first | apply zF | apply zG | apply zH)); exact kA (kY (p := ⟨gb540, 1, none⟩) (kY (p := ⟨gb540, 0, none⟩) (kD HO548.out BK540.out (by decide)) (fun _ hk => hk.2) (.int .i64 t545)) (fun _ hk => hk.2) (.slice Ao35 t546.length co35)) (fun _ hk => hk.1.2), by (with_reducible repeat (first | apply zF | apply zG | apply zH)); exact kA (kY (p := ⟨gb540, 1, none⟩) (kY (p := ⟨gb540, 0, none⟩) (kD HO568.out BK540.out (by decide)) (fun _ hk => hk.2) (.int .i64 t545)) (fun _ hk => hk.2) (.slice Ao35 t546.length co35)) (fun _ hk => hk.1.2), (show Z140 w0 _ g544 t541 t569 t570 from Z140.uC HI544.out NB544_540.out NB544_551.out), zW HB.out (Z140.ge HI544.out) GE540.out GE551.out, zW HBW.out GWS544.out GW540.out GW551.out, GWS544.out⟩

end Go.Proofs.YthgapkbkhoeleaaDoor.PAll
