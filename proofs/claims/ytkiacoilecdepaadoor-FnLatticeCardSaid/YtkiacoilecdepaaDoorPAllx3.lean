import Derived.Test.YtkiacoilecdepaaDoorPAllx0
import Derived.Test.YtkiacoilecdepaaDoorPAllx1
import Derived.Test.YtkiacoilecdepaaDoorPAllx2
namespace Go.Proofs.YtkiacoilecdepaaDoor.PAll
open Go.RowKit Go.Proofs.YtkiacoilecdepaaDoor.T Go.Proofs.YtkiacoilecdepaaDoorW.PrintWords Go.Proofs.YtkiacoilecdepaaDoorW.PrintLast Go.Proofs.YtkiacoilecdepaaDoorW.PrintMore
attribute [local go_sem] max2_int min2_int max_two min_two max_three min_three max_four min_four   -- for this text's walks alone
set_option linter.unusedVariables false
set_option linter.unusedSimpArgs false
def spec_l03Draw.l0 : Nat → List Int → Int → List Int → Int → Int → Int → List Int → Option (List Int × Int × Int)
 | 0, _, _, _, _, _, _, _ => none
 | k + 1, x7, x8, x1000, x1001, x1002, x213000, x213001 => if x8 > 0 then (if (x7.length : Int) > 0 then ((spec_l01Next.f x1000 x1001 x1002 8).bind fun bt219 => (if bt219.1 = 0 then (if 0 ≤ (wrap64 ((x7.length : Int) - 1)) then (if (wrap64 ((x7.length : Int) - 1)) < (x7.length : Int) then (if x7.length < 17592186044416 then (spec_l03Draw.l0 k (x7 ++ [rd x7 (wrap64 ((x7.length : Int) - 1))]) (wrap64 (x8 - 1)) x1000 bt219.2.1 bt219.2.2 x213000 x213001) else (none)) else (none)) else (none)) else ((spec_l01Next.f x1000 bt219.2.1 bt219.2.2 x213000).bind fun bt226 => (if x7.length < 17592186044416 then (spec_l03Draw.l0 k (x7 ++ [bt226.1]) (wrap64 (x8 - 1)) x1000 bt226.2.1 bt226.2.2 x213000 x213001) else (none))))) else ((spec_l01Next.f x1000 x1001 x1002 x213000).bind fun bt232 => (if x7.length < 17592186044416 then (spec_l03Draw.l0 k (x7 ++ [bt232.1]) (wrap64 (x8 - 1)) x1000 bt232.2.1 bt232.2.2 x213000 x213001) else (none)))) else (some (x7, x1001, x1002))
def spec_l03Draw.f (k : Nat) (s0_0 : List Int) (s0_1 : Int) (s0_2 : Int) (a1_0 : Int) (l1_1 : List Int) (a2 : Int) : Option (List Int × Int × Int) := (some (([] : List Int) : List Int)).bind fun y213 => (if a1_0 = 0 then (some (y213, s0_1, s0_2)) else ((spec_l01Next.f s0_0 s0_1 s0_2 (wrap64 (a2 + 1))).bind fun bt216 => (spec_l03Draw.l0 k y213 bt216.1 s0_0 bt216.2.1 bt216.2.2 a1_0 l1_1)))
set_option maxHeartbeats 8000000 in
set_option maxRecDepth 100000 in
theorem spec_l03Draw.calls (k : Nat) (g : Nat) (s0_0 : List Int) (s0_1 : Int) (s0_2 : Int) (a1_0 : Int) (A1_1 : Option Addr) (c1_1 : Nat) (l1_1 : List Int) (a2 : Int) (r1 : List Int) (r2 : Int) (r3 : Int) (w0 w : World) (hI : Z101 w0 w g s0_0 s0_1 s0_2) (hB : Below w0.heap.size w0 w) (hr1_1 : Kd.C (Kd.int .i64) w A1_1 l1_1.length l1_1) (hc1_1 : l1_1.length ≤ c1_1) (hf1_1 : ∀ ad, A1_1 = some ad → 0 < l1_1.length → ad.block ≠ g) (h : spec_l03Draw.f k s0_0 s0_1 s0_2 a1_0 l1_1 a2 = some (r1, r2, r3)) :
  Calls Tryd.prog 123 #[.pointer (some ⟨g, 0, none⟩), .agg #[.int .i64 a1_0, .slice A1_1 l1_1.length c1_1], .int .i64 a2] w fun e w' => ∃ v0_ : Value, e = .returned (v0_) ∧ Kd.R (Kd.int .i64) 2 w' w.heap.size (fun _ => True) v0_ r1 ∧ Z101 w0 w' g s0_0 r2 r3 ∧ Below w0.heap.size w0 w' ∧ KeepBut w w' g none := by
 have hu26 := Tryd.underlying26
 have HR1_1 := zA hr1_1
 have HC1_1 := zA hc1_1
 clear hr1_1 hc1_1
 have HI0 := zA hI
 have HK := zA (KeepBut.refl w g none)
 have HL := zA hB.size
 clear hI
 have HW0 := zA hB.size
 have HB := zA hB
 clear hB
 have H := h
 unfold spec_l03Draw.f at H
 clear h
 obtain ⟨y213, hy213⟩ : ∃ y_ : List Int, y_ = (([] : List Int)) := ⟨_, rfl⟩
 replace H : (if a1_0 = 0 then (some (y213, s0_1, s0_2)) else ((spec_l01Next.f s0_0 s0_1 s0_2 (wrap64 (a2 + 1))).bind fun bt216 => (spec_l03Draw.l0 k y213 bt216.1 s0_0 bt216.2.1 bt216.2.2 a1_0 l1_1))) = some (r1, r2, r3) := zy hy213 H
 have Ny213 := zA hy213
 clear hy213
 by_cases c4 : a1_0 = 0
 ·rw [if_pos c4] at H
  obtain ⟨c4b0, c4b1⟩ := zT1 c4
  clear c4
  simp only [Option.some.injEq, Prod.mk.injEq] at H
  obtain ⟨rfl, rfl, rfl⟩ := H
  go_enter Tryd.func123, Tryd.ntmps123
  go_wp2_with (first | (refine zBE 4 #[.int .i64 a1_0, .slice A1_1 l1_1.length c1_1] 26 ?_; intro gb212 hg w5 hbox hb; replace HB := zA (kQ (zT HB.out (Z101.ge HI0.out)) hb); have BK212 := zA (hbox); have GW212 := zA (zB6 hg (kX (w := w) (g := g) (row := none) (yA HK.out)) : w.heap.size ≤ gb212); have GE212 := zA ((Nat.le_trans HW0.out (by rw [hg]; exact (kX (w := w) (g := g) (row := none) (yA HK.out)) : w.heap.size ≤ gb212) : w0.heap.size ≤ gb212)); replace HK := zA (kT (yA HK.out) (kU hb g none) (.inl rfl)); have NB0_212 := zA (zB7 hg (Z101.lt (show Z101 w0 _ g s0_0 s0_1 s0_2 from Z101.uA HI0.out)) : g ≠ gb212); have NB212_0 := zA (zB8 hg (Z101.lt (show Z101 w0 _ g s0_0 s0_1 s0_2 from Z101.uA HI0.out)) : gb212 ≠ g); replace HI0 := zA (Z101.below (Z101.uA HI0.out) hb); clear hb hbox hg) | ((with_reducible refine kS (N := 9) rfl ?_); refine Kd.R_lit (Kd.int .i64) _ 2 ?hg (N := 9) ?hd (xs := ([] : List Int)) (inner := []) (ok := fun _ => True) (okp := fun _ => True) ?hr ?hp (fun _ hk => hk) trivial (kW _ _) (Nat.le_refl _) (by simp) ?_; (case hd => rfl); (case hg => rfl); (case hr => first | (go_simp; done) | (go_simp; rfl)); (case hp => exact (Reps.none _ _)); intro v214 w6 ho7 hb hg_ hnew_; clear hg_ hnew_; (first | rw [← Ny213.out] at ho7 | (simp only [Int.reduceToNat] at ho7; rw [← Ny213.out] at ho7)); have HO215 := zA (kI ho7 (kX (w := w) (g := g) (row := none) (yB HK.out GW212.out))); replace BK212 := zA (zB1 BK212.out hb); replace HK := zA (kT (yB HK.out GW212.out) (kU hb g none) (.inl rfl)); replace HB := zA (kQ (zV HB.out (Z101.ge HI0.out) GE212.out) hb); replace HI0 := zA (Z101.below (Z101.uB HI0.out NB0_212.out) hb); clear hb ho7; have hnb8 := NB212_0.out; have hnc8 := NB0_212.out; obtain ⟨hcz9_0, hcz9_1, hfz9_0, hfz9_1⟩ := zB3 BK212.out))
  go_ret
  exact ⟨_, zr, zP HO215.out, by repeat (first | (with_reducible first | exact HI0.out | apply Z101.alloc | apply Z101.drewN | apply Z101.drew | apply Z101.set_1 | apply Z101.set_2 | refine Z101.far ?_ NB0_212.out _) | exact HI0.out), zV HB.out (Z101.ge HI0.out) GE212.out, by repeat (first | (with_reducible first | exact HK.out | apply KeepBut.set_ | apply keep_drewN | apply keep_drew | apply keep_alloc | refine keep_far ?_ GW212.out _) | exact HK.out)⟩
 rw [if_neg c4] at H
 obtain ⟨c4b0, c4b1⟩ := zT2 c4
 obtain ⟨⟨t216, t217, t218⟩, A10, H⟩ := zb H
 try dsimp only at H
 have H' := zA H
 clear H
 go_enter Tryd.func123, Tryd.ntmps123
 go_wp2_with (first | (refine zBE 4 #[.int .i64 a1_0, .slice A1_1 l1_1.length c1_1] 26 ?_; intro gb212 hg w11 hbox hb; replace HB := zA (kQ (zT HB.out (Z101.ge HI0.out)) hb); have BK212 := zA (hbox); have GW212 := zA (zB6 hg (kX (w := w) (g := g) (row := none) (yA HK.out)) : w.heap.size ≤ gb212); have GE212 := zA ((Nat.le_trans HW0.out (by rw [hg]; exact (kX (w := w) (g := g) (row := none) (yA HK.out)) : w.heap.size ≤ gb212) : w0.heap.size ≤ gb212)); replace HK := zA (kT (yA HK.out) (kU hb g none) (.inl rfl)); have NB0_212 := zA (zB7 hg (Z101.lt (show Z101 w0 _ g s0_0 s0_1 s0_2 from Z101.uA HI0.out)) : g ≠ gb212); have NB212_0 := zA (zB8 hg (Z101.lt (show Z101 w0 _ g s0_0 s0_1 s0_2 from Z101.uA HI0.out)) : gb212 ≠ g); replace HI0 := zA (Z101.below (Z101.uA HI0.out) hb); clear hb hbox hg) | ((with_reducible refine kS (N := 9) rfl ?_); refine Kd.R_lit (Kd.int .i64) _ 2 ?hg (N := 9) ?hd (xs := ([] : List Int)) (inner := []) (ok := fun _ => True) (okp := fun _ => True) ?hr ?hp (fun _ hk => hk) trivial (kW _ _) (Nat.le_refl _) (by simp) ?_; (case hd => rfl); (case hg => rfl); (case hr => first | (go_simp; done) | (go_simp; rfl)); (case hp => exact (Reps.none _ _)); intro v214 w12 ho13 hb hg_ hnew_; clear hg_ hnew_; (first | rw [← Ny213.out] at ho13 | (simp only [Int.reduceToNat] at ho13; rw [← Ny213.out] at ho13)); have HO215 := zA (kI ho13 (kX (w := w) (g := g) (row := none) (yB HK.out GW212.out))); replace BK212 := zA (zB1 BK212.out hb); replace HK := zA (kT (yB HK.out GW212.out) (kU hb g none) (.inl rfl)); replace HB := zA (kQ (zV HB.out (Z101.ge HI0.out) GE212.out) hb); replace HI0 := zA (Z101.below (Z101.uB HI0.out NB0_212.out) hb); clear hb ho13; have hnb14 := NB212_0.out; have hnc14 := NB0_212.out; obtain ⟨hcz15_0, hcz15_1, hfz15_0, hfz15_1⟩ := zB3 BK212.out) | (refine zO (some 17) Tryd.func79 #[.pointer (some ⟨g, 0, none⟩), .int .i64 (wrap64 (a2 + 1))] ?_; (with_reducible refine (spec_l01Next.calls g s0_0 s0_1 s0_2 (wrap64 (a2 + 1)) t216 t217 t218 w0 _ ?side1 ?side2 A10.out).mono ?_); (case side1 => exact Z101.uB HI0.out NB0_212.out); (case side2 => exact zV HB.out (Z101.ge HI0.out) GE212.out); rintro e w16 ⟨rfl, hi, hb, hk⟩; refine ⟨_, rfl, ?_⟩; replace BK212 := zA (zB2 hk BK212.out NB212_0.out); replace HO215 := zA (zB9 (Z101.apart (show Z101 w0 _ g s0_0 s0_1 s0_2 from Z101.uB HI0.out NB0_212.out) (zP HO215.out) (by decide)) hk); replace HK := zA (kT (yB HK.out GW212.out) hk (.inl rfl)); replace HB := zA (hb); replace HI0 := zA (hi); (try clear hb); (try clear hk); (try clear hi)))
 go_loopg [7, 8] k (fun kq v7 v8 w' => ∃ (x7_1 : List Int) (x8_1 : Int) (x1001_1 : Int) (x1002_1 : Int), v8 = .int .i64 x8_1 ∧ Aside0 (spec_l03Draw.l0 kq x7_1 x8_1 s0_0 x1001_1 x1002_1 a1_0 l1_1 = some (r1, r2, r3)) ∧ Aside0 (kq ≤ k) ∧ Aside0 (Kd.R (Kd.int .i64) 2 w' w.heap.size (fun _ => True) v7 x7_1) ∧ Aside0 (w'.heap[gb212]? = some (.cells #[.int .i64 a1_0, (.slice A1_1 l1_1.length c1_1)] 26 (0, 0))) ∧ Aside0 (Z101 w0 w' g s0_0 x1001_1 x1002_1) ∧ Aside0 (KeepBut w w' g none) ∧ Aside0 (Below w0.heap.size w0 w'))
 case atStart => exact ⟨(y213), (t216), (t217), (t218), zs, H', ⟨Nat.le_refl _⟩, ⟨zP HO215.out⟩, ⟨zR BK212.out⟩, ⟨Z101.uB HI0.out NB0_212.out⟩, ⟨yB HK.out GW212.out⟩, ⟨zV HB.out (Z101.ge HI0.out) GE212.out⟩⟩
 case round =>
  clear H'
  try clear c1
  try clear c4
  try clear c7
  try clear c8
  try clear c12
  try clear c14
  try clear hcz15_0
  try clear hcz15_1
  try clear hcz9_0
  try clear hcz9_1
  try clear hfz15_0
  try clear hfz15_1
  try clear hfz9_0
  try clear hfz9_1
  obtain ⟨x7_1, x8_1, x1001_1, x1002_1, rfl, HA, HK1, HO_7, BK212, HI0, HK, HB⟩ := hrel
  cases gk with
  | zero => exact absurd HA.out (by simp [spec_l03Draw.l0])
  | succ k1 =>
   have H := HA.out
   clear HA
   simp only [spec_l03Draw.l0] at H
   by_cases c17 : x8_1 > 0
   ·rw [if_pos c17] at H
    have c17b0 : decide (0 < x8_1) = true := decide_eq_true c17
    clear c17
    by_cases c18 : (x7_1.length : Int) > 0
    ·rw [if_pos c18] at H
     have c18b0 : decide (0 < (x7_1.length : Int)) = true := decide_eq_true c18
     have c18b1 : decide (0 < x7_1.length) = true := decide_eq_true (by omega)
     clear c18
     obtain ⟨⟨t219, t220, t221⟩, A19, H⟩ := zb H
     try dsimp only at H
     by_cases c20 : t219 = 0
     ·rw [if_pos c20] at H
      obtain ⟨c20b0, c20b1⟩ := zT1 c20
      clear c20
      obtain ⟨ji21, hji21⟩ : ∃ j_ : Int, (wrap64 ((x7_1.length : Int) - 1)) = j_ := ⟨_, rfl⟩
      replace H : (if 0 ≤ (ji21) then (if (ji21) < (x7_1.length : Int) then (if x7_1.length < 17592186044416 then (spec_l03Draw.l0 k1 (x7_1 ++ [rd x7_1 (ji21)]) (wrap64 (x8_1 - 1)) s0_0 t220 t221 a1_0 l1_1) else (none)) else (none)) else (none)) = some (r1, r2, r3) := by first | (rw [hji21] at H; exact H) | (simp only [hji21] at H ⊢; exact H)
      (try rw [hji21] at A19)
      have hji21w : (IntKind.i64.wrap ((x7_1.length : Int) - 1)) = ji21 := (i64_w _).trans hji21
      by_cases c22 : 0 ≤ (ji21)
      ·rw [if_pos c22] at H
       have c22b0 : decide (0 ≤ (ji21)) = true := decide_eq_true c22
       clear c22
       by_cases c23 : (ji21) < (x7_1.length : Int)
       ·rw [if_pos c23] at H
        have c23b0 : decide ((ji21) < (x7_1.length : Int)) = true := decide_eq_true c23
        clear c23
        by_cases c24 : x7_1.length < 17592186044416
        ·rw [if_pos c24] at H
         have LMc24 := zA c24
         clear c24
         obtain ⟨y223, hy223⟩ : ∃ y_ : List Int, y_ = (x7_1 ++ [rd x7_1 (ji21)]) := ⟨_, rfl⟩
         replace H : (spec_l03Draw.l0 k1 y223 (wrap64 (x8_1 - 1)) s0_0 t220 t221 a1_0 l1_1) = some (r1, r2, r3) := zy hy223 H
         have Ny223 := zA hy223
         clear hy223
         have H' := zA H
         clear H
         obtain ⟨Ao25, co25, eo25⟩ := kM HO_7.out
         subst eo25
         go_wp2_with (first | (go_at_call 79; (with_reducible refine (spec_l01Next.calls g s0_0 x1001_1 x1002_1 8 t219 t220 t221 w0 _ ?side1 ?side2 A19.out).mono ?_); (case side1 => exact Z101.uB HI0.out NB0_212.out); (case side2 => exact zV HB.out (Z101.ge HI0.out) GE212.out); rintro e w26 ⟨rfl, hi, hb, hk⟩; replace HO_7 := zA (zB9 (Z101.apart (show Z101 w0 _ g s0_0 x1001_1 x1002_1 from Z101.uB HI0.out NB0_212.out) (zP HO_7.out) (by decide)) hk); replace BK212 := zA (zB2 hk BK212.out NB212_0.out); replace HK := zA (kT (yB HK.out GW212.out) hk (.inl rfl)); replace HB := zA (hb); replace HI0 := zA (hi); (try clear hb); (try clear hk); (try clear hi); have p222 : 0 ≤ ((ji21) : Int) := zd; have q222 : (ji21) < (x7_1.length : Int) := zd; obtain ⟨ad222, e222, hx222_0⟩ := Kd.at_int (kB HO_7.out).2.2 (ji21) p222 q222; cases e222; replace p222 := eq_true p222; replace q222 := eq_true q222) | ((with_reducible refine gate_builtin (b := .append) (xs := #[.tmp 30, .tmp 37]) rfl ?_); at_builtin; refine Kd.R_append (Kd.int .i64) w.heap.size rfl (.tmp 30) (.tmp 37) 24 2 (.int .i64 0) 8 rfl Tryd.underlying24 info2 rfl (by decide) (by omega) (.slice (some ad222) x7_1.length co25) x7_1 (rd x7_1 (ji21)) [.int .i64 (rd x7_1 (ji21))] (fun _ => True) (fun _ => False) rfl rfl ?aP (fun _ hk => hk.elim) ?aF ?aO (kW _ _) ?aS ?aL ?_; (case aP => exact rfl); (case aF => exact (fun _ _ => trivial)); (case aO => exact (zP HO_7.out)); (case aS => exact (kX (w := w) (g := g) (row := none) (yB HK.out GW212.out))); (case aL => have := LMc24.out; omega); intro v224 w27 ho hb hg hat; rw [← Ny223.out] at ho; replace BK212 := zA (blk_grown (g := gb212) (o := .cells #[.int .i64 a1_0, .slice A1_1 l1_1.length c1_1] 26 (0, 0)) (zR BK212.out) hg (Kd.R_ne HO_7.out BK212.out (by decide))); replace HB := zA (below_weaken (zV HB.out (Z101.ge HI0.out) GE212.out) HL.out hb); replace HI0 := zA (Z101.grown (Z101.uB HI0.out NB0_212.out) hg (Z101.own_ne HI0.out HO_7.out (by decide))); replace HK := zA (kT (yB HK.out GW212.out) (KeepBut.of_grown hg g) (Kd.R_base2 HO_7.out)); have HO225 := zA (ho); clear HO_7; clear ho hb hg hat))
         go_roundg k1
         case measure => have := HK1.out; omega
         case rel => exact ⟨(y223), (wrap64 (x8_1 - 1)), (t220), (t221), zs, H', ⟨by have := HK1.out; omega⟩, ⟨zP HO225.out⟩, ⟨zR BK212.out⟩, ⟨Z101.uB HI0.out NB0_212.out⟩, ⟨yB HK.out GW212.out⟩, ⟨zV HB.out (Z101.ge HI0.out) GE212.out⟩⟩
        rw [if_neg c24] at H
        exact absurd H (by simp)
       rw [if_neg c23] at H
       exact absurd H (by simp)
      rw [if_neg c22] at H
      exact absurd H (by simp)
     rw [if_neg c20] at H
     obtain ⟨c20b0, c20b1⟩ := zT2 c20
     obtain ⟨⟨t226, t227, t228⟩, A28, H⟩ := zb H
     try dsimp only at H
     by_cases c29 : x7_1.length < 17592186044416
     ·rw [if_pos c29] at H
      have LMc29 := zA c29
      clear c29
      obtain ⟨y229, hy229⟩ : ∃ y_ : List Int, y_ = (x7_1 ++ [t226]) := ⟨_, rfl⟩
      replace H : (spec_l03Draw.l0 k1 y229 (wrap64 (x8_1 - 1)) s0_0 t227 t228 a1_0 l1_1) = some (r1, r2, r3) := zy hy229 H
      have Ny229 := zA hy229
      clear hy229
      have H' := zA H
      clear H
      obtain ⟨Ao30, co30, eo30⟩ := kM HO_7.out
      subst eo30
      go_wp2_with (first | (go_at_call 79; (with_reducible refine (spec_l01Next.calls g s0_0 x1001_1 x1002_1 8 t219 t220 t221 w0 _ ?side1 ?side2 A19.out).mono ?_); (case side1 => exact Z101.uB HI0.out NB0_212.out); (case side2 => exact zV HB.out (Z101.ge HI0.out) GE212.out); rintro e w31 ⟨rfl, hi, hb, hk⟩; replace HO_7 := zA (zB9 (Z101.apart (show Z101 w0 _ g s0_0 x1001_1 x1002_1 from Z101.uB HI0.out NB0_212.out) (zP HO_7.out) (by decide)) hk); replace BK212 := zA (zB2 hk BK212.out NB212_0.out); replace HK := zA (kT (yB HK.out GW212.out) hk (.inl rfl)); replace HB := zA (hb); replace HI0 := zA (hi); (try clear hb); (try clear hb2); (try clear hk); (try clear hi); (try clear hgw); have hnb32 := NB212_0.out; have hnc32 := NB0_212.out; obtain ⟨hcz33_0, hcz33_1, hfz33_0, hfz33_1⟩ := zB3 BK212.out) | (refine zO (some 43) Tryd.func79 #[.pointer (some ⟨g, 0, none⟩), .int .i64 a1_0] ?_; (with_reducible refine (spec_l01Next.calls g s0_0 t220 t221 a1_0 t226 t227 t228 w0 _ ?side1 ?side2 A28.out).mono ?_); (case side1 => exact Z101.uB HI0.out NB0_212.out); (case side2 => exact zV HB.out (Z101.ge HI0.out) GE212.out); rintro e w34 ⟨rfl, hi, hb, hk⟩; refine ⟨_, rfl, ?_⟩; replace HO_7 := zA (zB9 (Z101.apart (show Z101 w0 _ g s0_0 t220 t221 from Z101.uB HI0.out NB0_212.out) (zP HO_7.out) (by decide)) hk); replace BK212 := zA (zB2 hk BK212.out NB212_0.out); replace HK := zA (kT (yB HK.out GW212.out) hk (.inl rfl)); replace HB := zA (hb); replace HI0 := zA (hi); (try clear hb); (try clear hb2); (try clear hk); (try clear hi); (try clear hgw)) | ((with_reducible refine gate_builtin (b := .append) (xs := #[.tmp 39, .tmp 44]) rfl ?_); at_builtin; refine Kd.R_append (Kd.int .i64) w.heap.size rfl (.tmp 39) (.tmp 44) 24 2 (.int .i64 0) 8 rfl Tryd.underlying24 info2 rfl (by decide) (by omega) (.slice Ao30 x7_1.length co30) x7_1 t226 [.int .i64 t226] (fun _ => True) (fun _ => False) rfl rfl ?aP (fun _ hk => hk.elim) ?aF ?aO (kW _ _) ?aS ?aL ?_; (case aP => exact rfl); (case aF => exact (fun _ _ => trivial)); (case aO => exact (zP HO_7.out)); (case aS => exact (kX (w := w) (g := g) (row := none) (yB HK.out GW212.out))); (case aL => have := LMc29.out; omega); intro v230 w35 ho hb hg hat; rw [← Ny229.out] at ho; replace BK212 := zA (blk_grown (g := gb212) (o := .cells #[.int .i64 a1_0, .slice A1_1 l1_1.length c1_1] 26 (0, 0)) (zR BK212.out) hg (Kd.R_ne HO_7.out BK212.out (by decide))); replace HB := zA (below_weaken (zV HB.out (Z101.ge HI0.out) GE212.out) HL.out hb); replace HI0 := zA (Z101.grown (Z101.uB HI0.out NB0_212.out) hg (Z101.own_ne HI0.out HO_7.out (by decide))); replace HK := zA (kT (yB HK.out GW212.out) (KeepBut.of_grown hg g) (Kd.R_base2 HO_7.out)); have HO231 := zA (ho); clear HO_7; clear ho hb hg hat))
      go_roundg k1
      case measure => have := HK1.out; omega
      case rel => exact ⟨(y229), (wrap64 (x8_1 - 1)), (t227), (t228), zs, H', ⟨by have := HK1.out; omega⟩, ⟨zP HO231.out⟩, ⟨zR BK212.out⟩, ⟨Z101.uB HI0.out NB0_212.out⟩, ⟨yB HK.out GW212.out⟩, ⟨zV HB.out (Z101.ge HI0.out) GE212.out⟩⟩
     rw [if_neg c29] at H
     exact absurd H (by simp)
    rw [if_neg c18] at H
    have c18b0 : decide (0 < (x7_1.length : Int)) = false := decide_eq_false c18
    have c18b1 : decide (0 < x7_1.length) = false := decide_eq_false (by omega)
    clear c18
    obtain ⟨⟨t232, t233, t234⟩, A36, H⟩ := zb H
    try dsimp only at H
    by_cases c37 : x7_1.length < 17592186044416
    ·rw [if_pos c37] at H
     have LMc37 := zA c37
     clear c37
     obtain ⟨y235, hy235⟩ : ∃ y_ : List Int, y_ = (x7_1 ++ [t232]) := ⟨_, rfl⟩
     replace H : (spec_l03Draw.l0 k1 y235 (wrap64 (x8_1 - 1)) s0_0 t233 t234 a1_0 l1_1) = some (r1, r2, r3) := zy hy235 H
     have Ny235 := zA hy235
     clear hy235
     have H' := zA H
     clear H
     obtain ⟨Ao38, co38, eo38⟩ := kM HO_7.out
     subst eo38
     have hnb39 := NB212_0.out
     have hnc39 := NB0_212.out
     obtain ⟨hcz40_0, hcz40_1, hfz40_0, hfz40_1⟩ := zB3 BK212.out
     go_wp2_with (first | (refine zO (some 43) Tryd.func79 #[.pointer (some ⟨g, 0, none⟩), .int .i64 a1_0] ?_; (with_reducible refine (spec_l01Next.calls g s0_0 x1001_1 x1002_1 a1_0 t232 t233 t234 w0 _ ?side1 ?side2 A36.out).mono ?_); (case side1 => exact Z101.uB HI0.out NB0_212.out); (case side2 => exact zV HB.out (Z101.ge HI0.out) GE212.out); rintro e w41 ⟨rfl, hi, hb, hk⟩; refine ⟨_, rfl, ?_⟩; replace HO_7 := zA (zB9 (Z101.apart (show Z101 w0 _ g s0_0 x1001_1 x1002_1 from Z101.uB HI0.out NB0_212.out) (zP HO_7.out) (by decide)) hk); replace BK212 := zA (zB2 hk BK212.out NB212_0.out); replace HK := zA (kT (yB HK.out GW212.out) hk (.inl rfl)); replace HB := zA (hb); replace HI0 := zA (hi); (try clear hb); (try clear hk); (try clear hi)) | ((with_reducible refine gate_builtin (b := .append) (xs := #[.tmp 39, .tmp 44]) rfl ?_); at_builtin; refine Kd.R_append (Kd.int .i64) w.heap.size rfl (.tmp 39) (.tmp 44) 24 2 (.int .i64 0) 8 rfl Tryd.underlying24 info2 rfl (by decide) (by omega) (.slice Ao38 x7_1.length co38) x7_1 t232 [.int .i64 t232] (fun _ => True) (fun _ => False) rfl rfl ?aP (fun _ hk => hk.elim) ?aF ?aO (kW _ _) ?aS ?aL ?_; (case aP => exact rfl); (case aF => exact (fun _ _ => trivial)); (case aO => exact (zP HO_7.out)); (case aS => exact (kX (w := w) (g := g) (row := none) (yB HK.out GW212.out))); (case aL => have := LMc37.out; omega); intro v236 w42 ho hb hg hat; rw [← Ny235.out] at ho; replace BK212 := zA (blk_grown (g := gb212) (o := .cells #[.int .i64 a1_0, .slice A1_1 l1_1.length c1_1] 26 (0, 0)) (zR BK212.out) hg (Kd.R_ne HO_7.out BK212.out (by decide))); replace HB := zA (below_weaken (zV HB.out (Z101.ge HI0.out) GE212.out) HL.out hb); replace HI0 := zA (Z101.grown (Z101.uB HI0.out NB0_212.out) hg (Z101.own_ne HI0.out HO_7.out (by decide))); replace HK := zA (kT (yB HK.out GW212.out) (KeepBut.of_grown hg g) (Kd.R_base2 HO_7.out)); have HO237 := zA (ho); clear HO_7; clear ho hb hg hat))
     go_roundg k1
     case measure => have := HK1.out; omega
     case rel => exact ⟨(y235), (wrap64 (x8_1 - 1)), (t233), (t234), zs, H', ⟨by have := HK1.out; omega⟩, ⟨zP HO237.out⟩, ⟨zR BK212.out⟩, ⟨Z101.uB HI0.out NB0_212.out⟩, ⟨yB HK.out GW212.out⟩, ⟨zV HB.out (Z101.ge HI0.out) GE212.out⟩⟩
    rw [if_neg c37] at H
    exact absurd H (by simp)
   rw [if_neg c17] at H
   have c17b0 : decide (0 < x8_1) = false := decide_eq_false c17
   clear c17
   simp only [Option.some.injEq, Prod.mk.injEq] at H
   obtain ⟨rfl, rfl, rfl⟩ := H
   go_wp2
   go_ret
   exact ⟨_, zr, zP HO_7.out, by repeat (first | (with_reducible first | exact HI0.out | apply Z101.alloc | apply Z101.drewN | apply Z101.drew | apply Z101.set_1 | apply Z101.set_2 | refine Z101.far ?_ NB0_212.out _) | exact HI0.out), zV HB.out (Z101.ge HI0.out) GE212.out, by repeat (first | (with_reducible first | exact HK.out | apply KeepBut.set_ | apply keep_drewN | apply keep_drew | apply keep_alloc | refine keep_far ?_ GW212.out _) | exact HK.out)⟩
def spec_l03Spoil.l0 : Nat → List Int → List Int → Int → Int → Int → List Int → Option (List Int × Int × Int)
 | 0, _, _, _, _, _, _ => none
 | k + 1, x7, x1000, x1001, x1002, x239000, x239001 => if x239000 > 0 then (if (x7.length : Int) < 25 then ((spec_l01Next.f x1000 x1001 x1002 x239000).bind fun bt260 => (if x7.length < 17592186044416 then (spec_l03Spoil.l0 k (x7 ++ [bt260.1]) x1000 bt260.2.1 bt260.2.2 x239000 x239001) else (none))) else (some (x7, x1001, x1002))) else (some (x7, x1001, x1002))
def spec_l03Spoil.f (k : Nat) (s0_0 : List Int) (s0_1 : Int) (s0_2 : Int) (a1_0 : Int) (l1_1 : List Int) (a2 : Int) : Option (List Int × Int × Int) := (spec_l02Is.f k a1_0 l1_1).bind fun t239 => (if t239 = true then ((spec_l03Draw.f k s0_0 s0_1 s0_2 a1_0 l1_1 a2).bind fun bt243 => ((spec_l01Next.f s0_0 bt243.2.1 bt243.2.2 28).bind fun bt248 => (if bt248.1 = 0 then ((spec_l01Pick.f s0_0 bt248.2.1 bt248.2.2 (([(-1), a1_0, 1099511627776] : List Int))).bind fun bt254 => (if bt243.1.length < 17592186044416 then (some ((bt243.1 ++ [bt254.1]), bt254.2.1, bt254.2.2)) else (none))) else (if bt248.1 = 1 then (spec_l03Spoil.l0 k bt243.1 s0_0 bt248.2.1 bt248.2.2 a1_0 l1_1) else (some (bt243.1, bt248.2.1, bt248.2.2)))))) else (some ((([0, 1, 0] : List Int)), s0_1, s0_2)))
set_option maxHeartbeats 8000000 in
set_option maxRecDepth 100000 in
theorem spec_l03Spoil.calls (k : Nat) (g : Nat) (s0_0 : List Int) (s0_1 : Int) (s0_2 : Int) (a1_0 : Int) (A1_1 : Option Addr) (c1_1 : Nat) (l1_1 : List Int) (a2 : Int) (r1 : List Int) (r2 : Int) (r3 : Int) (w0 w : World) (hI : Z101 w0 w g s0_0 s0_1 s0_2) (hB : Below w0.heap.size w0 w) (hr1_1 : Kd.C (Kd.int .i64) w A1_1 l1_1.length l1_1) (hc1_1 : l1_1.length ≤ c1_1) (hf1_1 : ∀ ad, A1_1 = some ad → 0 < l1_1.length → ad.block ≠ g) (h : spec_l03Spoil.f k s0_0 s0_1 s0_2 a1_0 l1_1 a2 = some (r1, r2, r3)) :
  Calls Tryd.prog 99 #[.pointer (some ⟨g, 0, none⟩), .agg #[.int .i64 a1_0, .slice A1_1 l1_1.length c1_1], .int .i64 a2] w fun e w' => ∃ v0_ : Value, e = .returned (v0_) ∧ Kd.R (Kd.int .i64) 2 w' w.heap.size (fun _ => True) v0_ r1 ∧ Z101 w0 w' g s0_0 r2 r3 ∧ Below w0.heap.size w0 w' ∧ KeepBut w w' g none := by
 have hu26 := Tryd.underlying26
 have HR1_1 := zA hr1_1
 have HC1_1 := zA hc1_1
 clear hr1_1 hc1_1
 have HI0 := zA hI
 have HK := zA (KeepBut.refl w g none)
 have HL := zA hB.size
 clear hI
 have HW0 := zA hB.size
 have HB := zA hB
 clear hB
 have H := h
 unfold spec_l03Spoil.f at H
 clear h
 obtain ⟨t239, A4, H⟩ := zb H
 try dsimp only at H
 by_cases c5 : t239 = true
 ·subst c5
  rw [if_pos rfl] at H
  obtain ⟨⟨t243, t246, t247⟩, A6, H⟩ := zb H
  try dsimp only at H
  obtain ⟨⟨t248, t249, t250⟩, A7, H⟩ := zb H
  try dsimp only at H
  by_cases c8 : t248 = 0
  ·rw [if_pos c8] at H
   obtain ⟨c8b0, c8b1⟩ := zT1 c8
   clear c8
   obtain ⟨y251, hy251⟩ : ∃ y_ : List Int, y_ = (([(-1), a1_0, 1099511627776] : List Int)) := ⟨_, rfl⟩
   replace H : ((spec_l01Pick.f s0_0 t249 t250 y251).bind fun bt254 => (if t243.length < 17592186044416 then (some ((t243 ++ [bt254.1]), bt254.2.1, bt254.2.2)) else (none))) = some (r1, r2, r3) := zy hy251 H
   have Ny251 := zA hy251
   clear hy251
   obtain ⟨⟨t254, t255, t256⟩, A9, H⟩ := zb H
   try dsimp only at H
   by_cases c10 : t243.length < 17592186044416
   ·rw [if_pos c10] at H
    have LMc10 := zA c10
    clear c10
    obtain ⟨y257, hy257⟩ : ∃ y_ : List Int, y_ = (t243 ++ [t254]) := ⟨_, rfl⟩
    replace H : (some (y257, t255, t256)) = some (r1, r2, r3) := zy hy257 H
    have Ny257 := zA hy257
    clear hy257
    simp only [Option.some.injEq, Prod.mk.injEq] at H
    obtain ⟨rfl, rfl, rfl⟩ := H
    go_enter Tryd.func99, Tryd.ntmps99
    go_wp2_with (first | (refine zBE 4 #[.int .i64 a1_0, .slice A1_1 l1_1.length c1_1] 26 ?_; intro gb238 hg w11 hbox hb; replace HB := zA (kQ (zT HB.out (Z101.ge HI0.out)) hb); have BK238 := zA (hbox); have GW238 := zA (zB6 hg (kX (w := w) (g := g) (row := none) (yA HK.out)) : w.heap.size ≤ gb238); have GE238 := zA ((Nat.le_trans HW0.out (by rw [hg]; exact (kX (w := w) (g := g) (row := none) (yA HK.out)) : w.heap.size ≤ gb238) : w0.heap.size ≤ gb238)); replace HK := zA (kT (yA HK.out) (kU hb g none) (.inl rfl)); have NB0_238 := zA (zB7 hg (Z101.lt (show Z101 w0 _ g s0_0 s0_1 s0_2 from Z101.uA HI0.out)) : g ≠ gb238); have NB238_0 := zA (zB8 hg (Z101.lt (show Z101 w0 _ g s0_0 s0_1 s0_2 from Z101.uA HI0.out)) : gb238 ≠ g); replace HI0 := zA (Z101.below (Z101.uA HI0.out) hb); clear hb hbox hg; have hnb12 := NB238_0.out; have hnc12 := NB0_238.out; obtain ⟨hcz13_0, hcz13_1, hfz13_0, hfz13_1⟩ := zB3 BK238.out) | (refine zO (some 9) Tryd.func106 #[.agg #[.int .i64 a1_0, .slice A1_1 l1_1.length c1_1]] ?_; (with_reducible refine (spec_l02Is.calls k a1_0 _ _ l1_1 true _ ?side1 ?side2 A4.out).mono ?_); (case side1 => exact Kd.C_keep 0 HR1_1.out (yB HK.out GW238.out) hf1_1); (case side2 => exact HC1_1.out); rintro e w14 ⟨rfl, hb⟩; refine ⟨_, rfl, ?_⟩; replace BK238 := zA (zB1 BK238.out hb); replace HK := zA (kT (yB HK.out GW238.out) (kU hb g none) (.inl rfl)); replace HB := zA (kQ (zV HB.out (Z101.ge HI0.out) GE238.out) hb); replace HI0 := zA (Z101.below (Z101.uB HI0.out NB0_238.out) hb); (try clear hb); obtain ⟨hcz15_0, hcz15_1, hfz15_0, hfz15_1⟩ := zB3 BK238.out) | (refine zO (some 15) Tryd.func123 #[.pointer (some ⟨g, 0, none⟩), .agg #[.int .i64 a1_0, .slice A1_1 l1_1.length c1_1], .int .i64 a2] ?_; (with_reducible refine (spec_l03Draw.calls k g s0_0 s0_1 s0_2 a1_0 _ _ l1_1 a2 t243 t246 t247 w0 _ ?side1 ?side2 ?side3 ?side4 ?side5 A6.out).mono ?_); (case side1 => exact Z101.uB HI0.out NB0_238.out); (case side2 => exact zV HB.out (Z101.ge HI0.out) GE238.out); (case side3 => exact Kd.C_keep 0 HR1_1.out (yB HK.out GW238.out) hf1_1); (case side4 => exact HC1_1.out); (case side5 => exact hf1_1); rintro e w16 ⟨v244, rfl, ho0, hi, hb, hk⟩; refine ⟨_, rfl, ?_⟩; replace BK238 := zA (zB2 hk BK238.out NB238_0.out); have HO245 := zA (kI ho0 (kX (w := w) (g := g) (row := none) (yB HK.out GW238.out))); replace HK := zA (kT (yB HK.out GW238.out) hk (.inl rfl)); replace HB := zA (hb); replace HI0 := zA (hi); (try clear hb); (try clear hk); (try clear hi); (try clear ho0)) | (refine zO (some 17) Tryd.func79 #[.pointer (some ⟨g, 0, none⟩), .int .i64 28] ?_; (with_reducible refine (spec_l01Next.calls g s0_0 t246 t247 28 t248 t249 t250 w0 _ ?side1 ?side2 A7.out).mono ?_); (case side1 => exact Z101.uB HI0.out NB0_238.out); (case side2 => exact zV HB.out (Z101.ge HI0.out) GE238.out); rintro e w17 ⟨rfl, hi, hb, hk⟩; refine ⟨_, rfl, ?_⟩; replace BK238 := zA (zB2 hk BK238.out NB238_0.out); replace HO245 := zA (zB9 (Z101.apart (show Z101 w0 _ g s0_0 t246 t247 from Z101.uB HI0.out NB0_238.out) (zP HO245.out) (by decide)) hk); replace HK := zA (kT (yB HK.out GW238.out) hk (.inl rfl)); replace HB := zA (hb); replace HI0 := zA (hi); (try clear hb); (try clear hk); (try clear hi); obtain ⟨hcz18_0, hcz18_1, hfz18_0, hfz18_1⟩ := zB3 BK238.out) | ((with_reducible refine kS (N := 24) rfl ?_); refine Kd.R_lit (Kd.int .i64) _ 2 ?hg (N := 24) ?hd (xs := ([(-1), a1_0, 1099511627776] : List Int)) (inner := [.int .i64 (-1), .int .i64 a1_0, .int .i64 1099511627776]) (ok := fun _ => True) (okp := fun _ => True) ?hr ?hp (fun _ hk => hk) trivial (kW _ _) (Nat.le_refl _) (by simp) ?_; (case hd => rfl); (case hg => rfl); (case hr => first | (go_simp; done) | (go_simp; rfl)); (case hp => exact (Reps.one (show Kd.M (Kd.int .i64) _ _ _ (-1) [.int .i64 (-1)] from rfl) (Reps.one (show Kd.M (Kd.int .i64) _ _ _ a1_0 [.int .i64 a1_0] from rfl) (Reps.one (show Kd.M (Kd.int .i64) _ _ _ 1099511627776 [.int .i64 1099511627776] from rfl) (Reps.none _ _))))); intro v252 w19 ho20 hb hg_ hnew_; clear hg_ hnew_; (first | rw [← Ny251.out] at ho20 | (simp only [Int.reduceToNat] at ho20; rw [← Ny251.out] at ho20)); have HO253 := zA (kI (kF ho20 (kH (zP HO245.out))) (kX (w := w) (g := g) (row := none) (yB HK.out GW238.out))); replace HO245 := zA (kE (zP HO245.out) (kC ho20) hb); replace BK238 := zA (zB1 BK238.out hb); replace HK := zA (kT (yB HK.out GW238.out) (kU hb g none) (.inl rfl)); replace HB := zA (kQ (zV HB.out (Z101.ge HI0.out) GE238.out) hb); replace HI0 := zA (Z101.below (Z101.uB HI0.out NB0_238.out) hb); clear hb ho20; obtain ⟨Ao21, co21, eo21⟩ := kM HO253.out; subst eo21) | (refine zO (some 25) Tryd.func81 #[.pointer (some ⟨g, 0, none⟩), .slice Ao21 y251.length co21] ?_; (with_reducible refine (spec_l01Pick.calls g s0_0 t249 t250 _ _ y251 t254 t255 t256 w0 _ ?side1 ?side2 ?side3 ?side4 ?side5 A9.out).mono ?_); (case side1 => exact Z101.uB HI0.out NB0_238.out); (case side2 => exact zV HB.out (Z101.ge HI0.out) GE238.out); (case side3 => exact zS (kB HO253.out).2.2); (case side4 => exact (kB HO253.out).2.1); (case side5 => exact jJ (Z101.own_ne HI0.out HO253.out (by decide))); rintro e w22 ⟨rfl, hi, hb, hk⟩; refine ⟨_, rfl, ?_⟩; replace BK238 := zA (zB2 hk BK238.out NB238_0.out); replace HO245 := zA (zB9 (Z101.apart (show Z101 w0 _ g s0_0 t249 t250 from Z101.uB HI0.out NB0_238.out) (zP HO245.out) (by decide)) hk); replace HO253 := zA (zB9 (Z101.apart (show Z101 w0 _ g s0_0 t249 t250 from Z101.uB HI0.out NB0_238.out) (zP HO253.out) (by decide)) hk); replace HK := zA (kT (yB HK.out GW238.out) hk (.inl rfl)); replace HB := zA (hb); replace HI0 := zA (hi); (try clear hb); (try clear hk); (try clear hi)) | ((with_reducible refine gate_builtin (b := .append) (xs := #[.tmp 20, .tmp 26]) rfl ?_); at_builtin; refine Kd.R_append (Kd.int .i64) w.heap.size rfl (.tmp 20) (.tmp 26) 24 2 (.int .i64 0) 8 rfl Tryd.underlying24 info2 rfl (by decide) (by omega) v244 t243 t254 [.int .i64 t254] (fun k_ => some k_ ≠ (.slice Ao21 y251.length co21 : Value).ownBlock) (fun _ => False) rfl rfl ?aP (fun _ hk => hk.elim) ?aF ?aO (kW _ _) ?aS ?aL ?_; (case aP => exact rfl); (case aF => exact (fun k_ hk => jF (kH (zP HO253.out)) k_ hk)); (case aO => exact (by (with_reducible repeat (first | apply zF | apply zG | apply zH)); exact kA HO245.out (fun _ hk => hk.2))); (case aS => exact (kX (w := w) (g := g) (row := none) (yB HK.out GW238.out))); (case aL => have := LMc10.out; omega); intro v258 w23 ho hb hg hat; rw [← Ny257.out] at ho; replace BK238 := zA (blk_grown (g := gb238) (o := .cells #[.int .i64 a1_0, .slice A1_1 l1_1.length c1_1] 26 (0, 0)) (zR BK238.out) hg (Kd.R_ne HO245.out BK238.out (by decide))); replace HO253 := zA (Kd.R_after (ok := (fun _ => True)) (zP HO253.out) hg hat); replace HB := zA (below_weaken (zV HB.out (Z101.ge HI0.out) GE238.out) HL.out hb); replace HI0 := zA (Z101.grown (Z101.uB HI0.out NB0_238.out) hg (Z101.own_ne HI0.out HO245.out (by decide))); replace HK := zA (kT (yB HK.out GW238.out) (KeepBut.of_grown hg g) (Kd.R_base2 HO245.out)); have HO259 := zA (ho); clear HO245; clear ho hb hg hat))
    go_ret
    exact ⟨_, zr, by (with_reducible repeat (first | apply zF | apply zG | apply zH)); exact kA HO259.out (fun _ hk => trivial), by repeat (first | (with_reducible first | exact HI0.out | apply Z101.alloc | apply Z101.drewN | apply Z101.drew | apply Z101.set_1 | apply Z101.set_2 | refine Z101.far ?_ NB0_238.out _) | exact HI0.out), zV HB.out (Z101.ge HI0.out) GE238.out, by repeat (first | (with_reducible first | exact HK.out | apply KeepBut.set_ | apply keep_drewN | apply keep_drew | apply keep_alloc | refine keep_far ?_ GW238.out _) | exact HK.out)⟩
   rw [if_neg c10] at H
   exact absurd H (by simp)
  rw [if_neg c8] at H
  obtain ⟨c8b0, c8b1⟩ := zT2 c8
  by_cases c24 : t248 = 1
  ·rw [if_pos c24] at H
   obtain ⟨c24b0, c24b1⟩ := zT1 c24
   clear c24
   have H' := zA H
   clear H
   go_enter Tryd.func99, Tryd.ntmps99
   go_wp2_with (first | (refine zBE 4 #[.int .i64 a1_0, .slice A1_1 l1_1.length c1_1] 26 ?_; intro gb238 hg w25 hbox hb; replace HB := zA (kQ (zT HB.out (Z101.ge HI0.out)) hb); have BK238 := zA (hbox); have GW238 := zA (zB6 hg (kX (w := w) (g := g) (row := none) (yA HK.out)) : w.heap.size ≤ gb238); have GE238 := zA ((Nat.le_trans HW0.out (by rw [hg]; exact (kX (w := w) (g := g) (row := none) (yA HK.out)) : w.heap.size ≤ gb238) : w0.heap.size ≤ gb238)); replace HK := zA (kT (yA HK.out) (kU hb g none) (.inl rfl)); have NB0_238 := zA (zB7 hg (Z101.lt (show Z101 w0 _ g s0_0 s0_1 s0_2 from Z101.uA HI0.out)) : g ≠ gb238); have NB238_0 := zA (zB8 hg (Z101.lt (show Z101 w0 _ g s0_0 s0_1 s0_2 from Z101.uA HI0.out)) : gb238 ≠ g); replace HI0 := zA (Z101.below (Z101.uA HI0.out) hb); clear hb hbox hg; have hnb26 := NB238_0.out; have hnc26 := NB0_238.out; obtain ⟨hcz27_0, hcz27_1, hfz27_0, hfz27_1⟩ := zB3 BK238.out) | (refine zO (some 9) Tryd.func106 #[.agg #[.int .i64 a1_0, .slice A1_1 l1_1.length c1_1]] ?_; (with_reducible refine (spec_l02Is.calls k a1_0 _ _ l1_1 true _ ?side1 ?side2 A4.out).mono ?_); (case side1 => exact Kd.C_keep 0 HR1_1.out (yB HK.out GW238.out) hf1_1); (case side2 => exact HC1_1.out); rintro e w28 ⟨rfl, hb⟩; refine ⟨_, rfl, ?_⟩; replace BK238 := zA (zB1 BK238.out hb); replace HK := zA (kT (yB HK.out GW238.out) (kU hb g none) (.inl rfl)); replace HB := zA (kQ (zV HB.out (Z101.ge HI0.out) GE238.out) hb); replace HI0 := zA (Z101.below (Z101.uB HI0.out NB0_238.out) hb); (try clear hb); obtain ⟨hcz29_0, hcz29_1, hfz29_0, hfz29_1⟩ := zB3 BK238.out) | (refine zO (some 15) Tryd.func123 #[.pointer (some ⟨g, 0, none⟩), .agg #[.int .i64 a1_0, .slice A1_1 l1_1.length c1_1], .int .i64 a2] ?_; (with_reducible refine (spec_l03Draw.calls k g s0_0 s0_1 s0_2 a1_0 _ _ l1_1 a2 t243 t246 t247 w0 _ ?side1 ?side2 ?side3 ?side4 ?side5 A6.out).mono ?_); (case side1 => exact Z101.uB HI0.out NB0_238.out); (case side2 => exact zV HB.out (Z101.ge HI0.out) GE238.out); (case side3 => exact Kd.C_keep 0 HR1_1.out (yB HK.out GW238.out) hf1_1); (case side4 => exact HC1_1.out); (case side5 => exact hf1_1); rintro e w30 ⟨v244, rfl, ho0, hi, hb, hk⟩; refine ⟨_, rfl, ?_⟩; replace BK238 := zA (zB2 hk BK238.out NB238_0.out); have HO245 := zA (kI ho0 (kX (w := w) (g := g) (row := none) (yB HK.out GW238.out))); replace HK := zA (kT (yB HK.out GW238.out) hk (.inl rfl)); replace HB := zA (hb); replace HI0 := zA (hi); (try clear hb); (try clear hk); (try clear hi); (try clear ho0)) | (refine zO (some 17) Tryd.func79 #[.pointer (some ⟨g, 0, none⟩), .int .i64 28] ?_; (with_reducible refine (spec_l01Next.calls g s0_0 t246 t247 28 t248 t249 t250 w0 _ ?side1 ?side2 A7.out).mono ?_); (case side1 => exact Z101.uB HI0.out NB0_238.out); (case side2 => exact zV HB.out (Z101.ge HI0.out) GE238.out); rintro e w31 ⟨rfl, hi, hb, hk⟩; refine ⟨_, rfl, ?_⟩; replace BK238 := zA (zB2 hk BK238.out NB238_0.out); replace HO245 := zA (zB9 (Z101.apart (show Z101 w0 _ g s0_0 t246 t247 from Z101.uB HI0.out NB0_238.out) (zP HO245.out) (by decide)) hk); replace HK := zA (kT (yB HK.out GW238.out) hk (.inl rfl)); replace HB := zA (hb); replace HI0 := zA (hi); (try clear hb); (try clear hk); (try clear hi)))
   go_loopg [7] k (fun kq v7 w' => ∃ (x7_1 : List Int) (x1001_1 : Int) (x1002_1 : Int), Aside0 (spec_l03Spoil.l0 kq x7_1 s0_0 x1001_1 x1002_1 a1_0 l1_1 = some (r1, r2, r3)) ∧ Aside0 (kq ≤ k) ∧ Aside0 (Kd.R (Kd.int .i64) 2 w' w.heap.size (fun _ => True) v7 x7_1) ∧ Aside0 (w'.heap[gb238]? = some (.cells #[.int .i64 a1_0, (.slice A1_1 l1_1.length c1_1)] 26 (0, 0))) ∧ Aside0 (Z101 w0 w' g s0_0 x1001_1 x1002_1) ∧ Aside0 (KeepBut w w' g none) ∧ Aside0 (Below w0.heap.size w0 w'))
   case atStart => exact ⟨(t243), (t249), (t250), H', ⟨Nat.le_refl _⟩, ⟨zP HO245.out⟩, ⟨zR BK238.out⟩, ⟨Z101.uB HI0.out NB0_238.out⟩, ⟨yB HK.out GW238.out⟩, ⟨zV HB.out (Z101.ge HI0.out) GE238.out⟩⟩
   case round =>
    clear H'
    try clear c1
    try clear c2
    try clear c5
    try clear c7
    try clear c8
    try clear c9
    try clear c10
    try clear c12
    try clear c24
    try clear c26
    try clear hcz13_0
    try clear hcz13_1
    try clear hcz15_0
    try clear hcz15_1
    try clear hcz18_0
    try clear hcz18_1
    try clear hcz27_0
    try clear hcz27_1
    try clear hcz29_0
    try clear hcz29_1
    try clear hfz13_0
    try clear hfz13_1
    try clear hfz15_0
    try clear hfz15_1
    try clear hfz18_0
    try clear hfz18_1
    try clear hfz27_0
    try clear hfz27_1
    try clear hfz29_0
    try clear hfz29_1
    obtain ⟨x7_1, x1001_1, x1002_1, HA, HK1, HO_7, BK238, HI0, HK, HB⟩ := hrel
    cases gk with
    | zero => exact absurd HA.out (by simp [spec_l03Spoil.l0])
    | succ k1 =>
     have H := HA.out
     clear HA
     simp only [spec_l03Spoil.l0] at H
     by_cases c32 : a1_0 > 0
     ·rw [if_pos c32] at H
      have c32b0 : decide (0 < a1_0) = true := decide_eq_true c32
      clear c32
      by_cases c33 : (x7_1.length : Int) < 25
      ·rw [if_pos c33] at H
       have c33b0 : decide ((x7_1.length : Int) < 25) = true := decide_eq_true c33
       have c33b1 : decide (x7_1.length < 25) = true := decide_eq_true (by omega)
       clear c33
       obtain ⟨⟨t260, t261, t262⟩, A34, H⟩ := zb H
       try dsimp only at H
       by_cases c35 : x7_1.length < 17592186044416
       ·rw [if_pos c35] at H
        have LMc35 := zA c35
        clear c35
        obtain ⟨y263, hy263⟩ : ∃ y_ : List Int, y_ = (x7_1 ++ [t260]) := ⟨_, rfl⟩
        replace H : (spec_l03Spoil.l0 k1 y263 s0_0 t261 t262 a1_0 l1_1) = some (r1, r2, r3) := zy hy263 H
        have Ny263 := zA hy263
        clear hy263
        have H' := zA H
        clear H
        have hnb36 := NB238_0.out
        have hnc36 := NB0_238.out
        obtain ⟨hcz37_0, hcz37_1, hfz37_0, hfz37_1⟩ := zB3 BK238.out
        obtain ⟨Ao38, co38, eo38⟩ := kM HO_7.out
        subst eo38
        go_wp2_with (first | (refine zO (some 42) Tryd.func79 #[.pointer (some ⟨g, 0, none⟩), .int .i64 a1_0] ?_; (with_reducible refine (spec_l01Next.calls g s0_0 x1001_1 x1002_1 a1_0 t260 t261 t262 w0 _ ?side1 ?side2 A34.out).mono ?_); (case side1 => exact Z101.uB HI0.out NB0_238.out); (case side2 => exact zV HB.out (Z101.ge HI0.out) GE238.out); rintro e w39 ⟨rfl, hi, hb, hk⟩; refine ⟨_, rfl, ?_⟩; replace HO_7 := zA (zB9 (Z101.apart (show Z101 w0 _ g s0_0 x1001_1 x1002_1 from Z101.uB HI0.out NB0_238.out) (zP HO_7.out) (by decide)) hk); replace BK238 := zA (zB2 hk BK238.out NB238_0.out); replace HK := zA (kT (yB HK.out GW238.out) hk (.inl rfl)); replace HB := zA (hb); replace HI0 := zA (hi); (try clear hb); (try clear hk); (try clear hi)) | ((with_reducible refine gate_builtin (b := .append) (xs := #[.tmp 38, .tmp 43]) rfl ?_); at_builtin; refine Kd.R_append (Kd.int .i64) w.heap.size rfl (.tmp 38) (.tmp 43) 24 2 (.int .i64 0) 8 rfl Tryd.underlying24 info2 rfl (by decide) (by omega) (.slice Ao38 x7_1.length co38) x7_1 t260 [.int .i64 t260] (fun _ => True) (fun _ => False) rfl rfl ?aP (fun _ hk => hk.elim) ?aF ?aO (kW _ _) ?aS ?aL ?_; (case aP => exact rfl); (case aF => exact (fun _ _ => trivial)); (case aO => exact (zP HO_7.out)); (case aS => exact (kX (w := w) (g := g) (row := none) (yB HK.out GW238.out))); (case aL => have := LMc35.out; omega); intro v264 w40 ho hb hg hat; rw [← Ny263.out] at ho; replace BK238 := zA (blk_grown (g := gb238) (o := .cells #[.int .i64 a1_0, .slice A1_1 l1_1.length c1_1] 26 (0, 0)) (zR BK238.out) hg (Kd.R_ne HO_7.out BK238.out (by decide))); replace HB := zA (below_weaken (zV HB.out (Z101.ge HI0.out) GE238.out) HL.out hb); replace HI0 := zA (Z101.grown (Z101.uB HI0.out NB0_238.out) hg (Z101.own_ne HI0.out HO_7.out (by decide))); replace HK := zA (kT (yB HK.out GW238.out) (KeepBut.of_grown hg g) (Kd.R_base2 HO_7.out)); have HO265 := zA (ho); clear HO_7; clear ho hb hg hat))
        go_roundg k1
        case measure => have := HK1.out; omega
        case rel => exact ⟨(y263), (t261), (t262), H', ⟨by have := HK1.out; omega⟩, ⟨zP HO265.out⟩, ⟨zR BK238.out⟩, ⟨Z101.uB HI0.out NB0_238.out⟩, ⟨yB HK.out GW238.out⟩, ⟨zV HB.out (Z101.ge HI0.out) GE238.out⟩⟩
       rw [if_neg c35] at H
       exact absurd H (by simp)
      rw [if_neg c33] at H
      have c33b0 : decide ((x7_1.length : Int) < 25) = false := decide_eq_false c33
      have c33b1 : decide (x7_1.length < 25) = false := decide_eq_false (by omega)
      clear c33
      simp only [Option.some.injEq, Prod.mk.injEq] at H
      obtain ⟨rfl, rfl, rfl⟩ := H
      have hnb41 := NB238_0.out
      have hnc41 := NB0_238.out
      obtain ⟨hcz42_0, hcz42_1, hfz42_0, hfz42_1⟩ := zB3 BK238.out
      obtain ⟨Ao43, co43, eo43⟩ := kM HO_7.out
      subst eo43
      go_wp2
      go_ret
      exact ⟨_, zr, zP HO_7.out, by repeat (first | (with_reducible first | exact HI0.out | apply Z101.alloc | apply Z101.drewN | apply Z101.drew | apply Z101.set_1 | apply Z101.set_2 | refine Z101.far ?_ NB0_238.out _) | exact HI0.out), zV HB.out (Z101.ge HI0.out) GE238.out, by repeat (first | (with_reducible first | exact HK.out | apply KeepBut.set_ | apply keep_drewN | apply keep_drew | apply keep_alloc | refine keep_far ?_ GW238.out _) | exact HK.out)⟩
     rw [if_neg c32] at H
     have c32b0 : decide (0 < a1_0) = false := decide_eq_false c32
     clear c32
     simp only [Option.some.injEq, Prod.mk.injEq] at H
     obtain ⟨rfl, rfl, rfl⟩ := H
     have hnb44 := NB238_0.out
     have hnc44 := NB0_238.out
     obtain ⟨hcz45_0, hcz45_1, hfz45_0, hfz45_1⟩ := zB3 BK238.out
     go_wp2
     go_ret
     exact ⟨_, zr, zP HO_7.out, by repeat (first | (with_reducible first | exact HI0.out | apply Z101.alloc | apply Z101.drewN | apply Z101.drew | apply Z101.set_1 | apply Z101.set_2 | refine Z101.far ?_ NB0_238.out _) | exact HI0.out), zV HB.out (Z101.ge HI0.out) GE238.out, by repeat (first | (with_reducible first | exact HK.out | apply KeepBut.set_ | apply keep_drewN | apply keep_drew | apply keep_alloc | refine keep_far ?_ GW238.out _) | exact HK.out)⟩
  rw [if_neg c24] at H
  obtain ⟨c24b0, c24b1⟩ := zT2 c24
  simp only [Option.some.injEq, Prod.mk.injEq] at H
  obtain ⟨rfl, rfl, rfl⟩ := H
  go_enter Tryd.func99, Tryd.ntmps99
  go_wp2_with (first | (refine zBE 4 #[.int .i64 a1_0, .slice A1_1 l1_1.length c1_1] 26 ?_; intro gb238 hg w46 hbox hb; replace HB := zA (kQ (zT HB.out (Z101.ge HI0.out)) hb); have BK238 := zA (hbox); have GW238 := zA (zB6 hg (kX (w := w) (g := g) (row := none) (yA HK.out)) : w.heap.size ≤ gb238); have GE238 := zA ((Nat.le_trans HW0.out (by rw [hg]; exact (kX (w := w) (g := g) (row := none) (yA HK.out)) : w.heap.size ≤ gb238) : w0.heap.size ≤ gb238)); replace HK := zA (kT (yA HK.out) (kU hb g none) (.inl rfl)); have NB0_238 := zA (zB7 hg (Z101.lt (show Z101 w0 _ g s0_0 s0_1 s0_2 from Z101.uA HI0.out)) : g ≠ gb238); have NB238_0 := zA (zB8 hg (Z101.lt (show Z101 w0 _ g s0_0 s0_1 s0_2 from Z101.uA HI0.out)) : gb238 ≠ g); replace HI0 := zA (Z101.below (Z101.uA HI0.out) hb); clear hb hbox hg; have hnb47 := NB238_0.out; have hnc47 := NB0_238.out; obtain ⟨hcz48_0, hcz48_1, hfz48_0, hfz48_1⟩ := zB3 BK238.out) | (refine zO (some 9) Tryd.func106 #[.agg #[.int .i64 a1_0, .slice A1_1 l1_1.length c1_1]] ?_; (with_reducible refine (spec_l02Is.calls k a1_0 _ _ l1_1 true _ ?side1 ?side2 A4.out).mono ?_); (case side1 => exact Kd.C_keep 0 HR1_1.out (yB HK.out GW238.out) hf1_1); (case side2 => exact HC1_1.out); rintro e w49 ⟨rfl, hb⟩; refine ⟨_, rfl, ?_⟩; replace BK238 := zA (zB1 BK238.out hb); replace HK := zA (kT (yB HK.out GW238.out) (kU hb g none) (.inl rfl)); replace HB := zA (kQ (zV HB.out (Z101.ge HI0.out) GE238.out) hb); replace HI0 := zA (Z101.below (Z101.uB HI0.out NB0_238.out) hb); (try clear hb); obtain ⟨hcz50_0, hcz50_1, hfz50_0, hfz50_1⟩ := zB3 BK238.out) | (refine zO (some 15) Tryd.func123 #[.pointer (some ⟨g, 0, none⟩), .agg #[.int .i64 a1_0, .slice A1_1 l1_1.length c1_1], .int .i64 a2] ?_; (with_reducible refine (spec_l03Draw.calls k g s0_0 s0_1 s0_2 a1_0 _ _ l1_1 a2 t243 t246 t247 w0 _ ?side1 ?side2 ?side3 ?side4 ?side5 A6.out).mono ?_); (case side1 => exact Z101.uB HI0.out NB0_238.out); (case side2 => exact zV HB.out (Z101.ge HI0.out) GE238.out); (case side3 => exact Kd.C_keep 0 HR1_1.out (yB HK.out GW238.out) hf1_1); (case side4 => exact HC1_1.out); (case side5 => exact hf1_1); rintro e w51 ⟨v244, rfl, ho0, hi, hb, hk⟩; refine ⟨_, rfl, ?_⟩; replace BK238 := zA (zB2 hk BK238.out NB238_0.out); have HO245 := zA (kI ho0 (kX (w := w) (g := g) (row := none) (yB HK.out GW238.out))); replace HK := zA (kT (yB HK.out GW238.out) hk (.inl rfl)); replace HB := zA (hb); replace HI0 := zA (hi); (try clear hb); (try clear hk); (try clear hi); (try clear ho0)) | (refine zO (some 17) Tryd.func79 #[.pointer (some ⟨g, 0, none⟩), .int .i64 28] ?_; (with_reducible refine (spec_l01Next.calls g s0_0 t246 t247 28 t248 t249 t250 w0 _ ?side1 ?side2 A7.out).mono ?_); (case side1 => exact Z101.uB HI0.out NB0_238.out); (case side2 => exact zV HB.out (Z101.ge HI0.out) GE238.out); rintro e w52 ⟨rfl, hi, hb, hk⟩; refine ⟨_, rfl, ?_⟩; replace BK238 := zA (zB2 hk BK238.out NB238_0.out); replace HO245 := zA (zB9 (Z101.apart (show Z101 w0 _ g s0_0 t246 t247 from Z101.uB HI0.out NB0_238.out) (zP HO245.out) (by decide)) hk); replace HK := zA (kT (yB HK.out GW238.out) hk (.inl rfl)); replace HB := zA (hb); replace HI0 := zA (hi); (try clear hb); (try clear hk); (try clear hi)))
  go_ret
  exact ⟨_, zr, zP HO245.out, by repeat (first | (with_reducible first | exact HI0.out | apply Z101.alloc | apply Z101.drewN | apply Z101.drew | apply Z101.set_1 | apply Z101.set_2 | refine Z101.far ?_ NB0_238.out _) | exact HI0.out), zV HB.out (Z101.ge HI0.out) GE238.out, by repeat (first | (with_reducible first | exact HK.out | apply KeepBut.set_ | apply keep_drewN | apply keep_drew | apply keep_alloc | refine keep_far ?_ GW238.out _) | exact HK.out)⟩
 replace c5 := Bool.eq_false_iff.mpr c5
 subst c5
 rw [if_neg (show ¬ (false = true) by decide)] at H
 obtain ⟨y240, hy240⟩ : ∃ y_ : List Int, y_ = (([0, 1, 0] : List Int)) := ⟨_, rfl⟩
 replace H : (some (y240, s0_1, s0_2)) = some (r1, r2, r3) := zy hy240 H
 have Ny240 := zA hy240
 clear hy240
 simp only [Option.some.injEq, Prod.mk.injEq] at H
 obtain ⟨rfl, rfl, rfl⟩ := H
 go_enter Tryd.func99, Tryd.ntmps99
 go_wp2_with (first | (refine zBE 4 #[.int .i64 a1_0, .slice A1_1 l1_1.length c1_1] 26 ?_; intro gb238 hg w53 hbox hb; replace HB := zA (kQ (zT HB.out (Z101.ge HI0.out)) hb); have BK238 := zA (hbox); have GW238 := zA (zB6 hg (kX (w := w) (g := g) (row := none) (yA HK.out)) : w.heap.size ≤ gb238); have GE238 := zA ((Nat.le_trans HW0.out (by rw [hg]; exact (kX (w := w) (g := g) (row := none) (yA HK.out)) : w.heap.size ≤ gb238) : w0.heap.size ≤ gb238)); replace HK := zA (kT (yA HK.out) (kU hb g none) (.inl rfl)); have NB0_238 := zA (zB7 hg (Z101.lt (show Z101 w0 _ g s0_0 s0_1 s0_2 from Z101.uA HI0.out)) : g ≠ gb238); have NB238_0 := zA (zB8 hg (Z101.lt (show Z101 w0 _ g s0_0 s0_1 s0_2 from Z101.uA HI0.out)) : gb238 ≠ g); replace HI0 := zA (Z101.below (Z101.uA HI0.out) hb); clear hb hbox hg; have hnb54 := NB238_0.out; have hnc54 := NB0_238.out; obtain ⟨hcz55_0, hcz55_1, hfz55_0, hfz55_1⟩ := zB3 BK238.out) | (refine zO (some 9) Tryd.func106 #[.agg #[.int .i64 a1_0, .slice A1_1 l1_1.length c1_1]] ?_; (with_reducible refine (spec_l02Is.calls k a1_0 _ _ l1_1 false _ ?side1 ?side2 A4.out).mono ?_); (case side1 => exact Kd.C_keep 0 HR1_1.out (yB HK.out GW238.out) hf1_1); (case side2 => exact HC1_1.out); rintro e w56 ⟨rfl, hb⟩; refine ⟨_, rfl, ?_⟩; replace BK238 := zA (zB1 BK238.out hb); replace HK := zA (kT (yB HK.out GW238.out) (kU hb g none) (.inl rfl)); replace HB := zA (kQ (zV HB.out (Z101.ge HI0.out) GE238.out) hb); replace HI0 := zA (Z101.below (Z101.uB HI0.out NB0_238.out) hb); (try clear hb)) | ((with_reducible refine kS (N := 11) rfl ?_); refine Kd.R_lit (Kd.int .i64) _ 2 ?hg (N := 11) ?hd (xs := ([0, 1, 0] : List Int)) (inner := [.int .i64 0, .int .i64 1, .int .i64 0]) (ok := fun _ => True) (okp := fun _ => True) ?hr ?hp (fun _ hk => hk) trivial (kW _ _) (Nat.le_refl _) (by simp) ?_; (case hd => rfl); (case hg => rfl); (case hr => first | (go_simp; done) | (go_simp; rfl)); (case hp => exact (Reps.one (show Kd.M (Kd.int .i64) _ _ _ 0 [.int .i64 0] from rfl) (Reps.one (show Kd.M (Kd.int .i64) _ _ _ 1 [.int .i64 1] from rfl) (Reps.one (show Kd.M (Kd.int .i64) _ _ _ 0 [.int .i64 0] from rfl) (Reps.none _ _))))); intro v241 w57 ho58 hb hg_ hnew_; clear hg_ hnew_; (first | rw [← Ny240.out] at ho58 | (simp only [Int.reduceToNat] at ho58; rw [← Ny240.out] at ho58)); have HO242 := zA (kI ho58 (kX (w := w) (g := g) (row := none) (yB HK.out GW238.out))); replace BK238 := zA (zB1 BK238.out hb); replace HK := zA (kT (yB HK.out GW238.out) (kU hb g none) (.inl rfl)); replace HB := zA (kQ (zV HB.out (Z101.ge HI0.out) GE238.out) hb); replace HI0 := zA (Z101.below (Z101.uB HI0.out NB0_238.out) hb); clear hb ho58))
 go_ret
 exact ⟨_, zr, zP HO242.out, by repeat (first | (with_reducible first | exact HI0.out | apply Z101.alloc | apply Z101.drewN | apply Z101.drew | apply Z101.set_1 | apply Z101.set_2 | refine Z101.far ?_ NB0_238.out _) | exact HI0.out), zV HB.out (Z101.ge HI0.out) GE238.out, by repeat (first | (with_reducible first | exact HK.out | apply KeepBut.set_ | apply keep_drewN | apply keep_drew | apply keep_alloc | refine keep_far ?_ GW238.out _) | exact HK.out)⟩
def spec_l03Pair.f (k : Nat) (l0 : List Int) (a1 : Int) (a2 : Int) : Option (List Int × Int × Int × Int × List Int × List Int) := (spec_l01From.f k l0).bind fun bt267 => ((spec_l02Draw.f k bt267.1 bt267.2.1 bt267.2.2 a1).bind fun bt271 => ((spec_l01Next.f bt267.1 bt271.2.2.1 bt271.2.2.2 24).bind fun bt278 => (if bt278.1 = 0 then ((spec_l02Spoil.f k bt267.1 bt278.2.1 bt278.2.2 a1).bind fun bt281 => ((spec_l03Spoil.f k bt267.1 bt281.2.2.1 bt281.2.2.2 bt281.1 bt281.2.1 a2).bind fun bt287 => (some (bt267.1, bt287.2.1, bt287.2.2, bt281.1, bt281.2.1, bt287.1)))) else ((spec_l03Spoil.f k bt267.1 bt278.2.1 bt278.2.2 bt271.1 bt271.2.1 a2).bind fun bt292 => (some (bt267.1, bt292.2.1, bt292.2.2, bt271.1, bt271.2.1, bt292.1))))))
def spec_l03Pair.T5 : Bool × List (List Nat × List Nat) := (true, [([], []), ([], []), ([], []), ([], []), ([], []), ([2, 3, 4], [2, 3, 4]), ([0, 5, 0], [0]), ([1, 6, 0, 1, 6], [1]), ([5, 7, 0, 1, 2, 3, 4, 5, 6, 7], [5])])
def spec_l03Pair.B5 : List Nat := [0, 0, 0, 0, 0, 28, 61, 127, 255]
theorem spec_l03Pair.tab5 : rtab .any (opsOf Tryd.f48 5) = spec_l03Pair.T5 := by kernel_rfl
theorem spec_l03Pair.bits5 : waitsOk spec_l03Pair.T5.2 spec_l03Pair.B5 = true := by kernel_rfl
set_option maxHeartbeats 8000000 in
set_option maxRecDepth 100000 in
theorem spec_l03Pair.calls (k : Nat) (A0 : Option Addr) (c0 : Nat) (l0 : List Int) (a1 : Int) (a2 : Int) (r1 : List Int) (r2 : Int) (r3 : Int) (r4 : Int) (r5 : List Int) (r6 : List Int) (w0 w : World) (hB : Below w0.heap.size w0 w) (hr0 : Kd.C (Kd.int .u8) w0 A0 l0.length l0) (hc0 : l0.length ≤ c0) (h : spec_l03Pair.f k l0 a1 a2 = some (r1, r2, r3, r4, r5, r6)) :
  Calls Tryd.prog 48 #[.slice A0 l0.length c0, .int .i64 a1, .int .i64 a2] w fun e w' => ∃ v1_ v2_ : Value, ∃ g_ : Nat, e = .returned (.tuple #[.pointer (some ⟨g_, 0, none⟩), .agg #[.int .i64 r4, v1_], v2_]) ∧ Kd.R (Kd.int .i64) 2 w' w.heap.size (fun k_ => some k_ ≠ (v2_ : Value).ownBlock) v1_ r5 ∧ Kd.R (Kd.int .i64) 2 w' w.heap.size (fun k_ => some k_ ≠ (v1_ : Value).ownBlock) v2_ r6 ∧ Z101 w0 w' g_ r1 r2 r3 ∧ Below w0.heap.size w0 w' ∧ Below w.heap.size w w' ∧ w.heap.size ≤ g_ := by
 have hu26 := Tryd.underlying26
 have HR0 := zA hr0
 have HC0 := zA hc0
 clear hr0 hc0
 have HBW := zA (kW w.heap.size w)
 have HB00 := zA hB
 have HW0 := zA hB.size
 have HB := zA hB
 clear hB
 have H := h
 unfold spec_l03Pair.f at H
 clear h
 obtain ⟨⟨t267, t268, t269⟩, A4, H⟩ := zb H
 try dsimp only at H
 obtain ⟨⟨t271, t272, t275, t276⟩, A5, H⟩ := zb H
 try dsimp only at H
 obtain ⟨⟨t278, t279, t280⟩, A6, H⟩ := zb H
 try dsimp only at H
 by_cases c7 : t278 = 0
 ·rw [if_pos c7] at H
  obtain ⟨c7b0, c7b1⟩ := zT1 c7
  clear c7
  obtain ⟨⟨t281, t282, t285, t286⟩, A8, H⟩ := zb H
  try dsimp only at H
  obtain ⟨⟨t287, t290, t291⟩, A9, H⟩ := zb H
  try dsimp only at H
  simp only [Option.some.injEq, Prod.mk.injEq] at H
  obtain ⟨rfl, rfl, rfl, rfl, rfl, rfl⟩ := H
  go_enter Tryd.func48, Tryd.ntmps48
  try go_wp2_with (first | (refine zBE 7 #[.int .i64 0, .slice none 0 0] 26 ?_; intro gb266 hg w10 hbox hb; replace HB := zA (kQ (zQ HB.out) hb); have BK266 := zA (hbox); have GW266 := zA (zBH hg HBW.out); have GE266 := zA ((Nat.le_trans HW0.out (by rw [hg]; exact (kP (zQ HBW.out)) : w.heap.size ≤ gb266) : w0.heap.size ≤ gb266)); replace HBW := zA (kQ HBW.out hb); clear hb hbox hg) | (refine zO (some 12) Tryd.func93 #[.slice A0 l0.length c0] ?_; (with_reducible refine (spec_l01From.calls k _ _ l0 t267 t268 t269 w0 _ ?side1 ?side2 ?side3 A4.out).mono ?_); (case side1 => exact zT HB.out GE266.out); (case side2 => exact HR0.out); (case side3 => exact HC0.out); rintro e w11 ⟨g270, rfl, hi, hb, hb2, hgw⟩; refine ⟨_, rfl, ?_⟩; have GWS270 := zA ((Nat.le_trans (kP (zT HBW.out GW266.out)) hgw : w.heap.size ≤ g270)); replace HBW := zA (kQ (zT HBW.out GW266.out) hb2); replace HB := zA (hb); have HI270 := zA (hi); have NB270_266 := zA (Z101.ne_blk hi (blk_below (g := gb266) (o := .cells #[.int .i64 0, .slice none 0 0] 26 (0, 0)) (zR BK266.out) hb2) (by decide)); have NB266_270 := zA (Ne.symm (Z101.ne_blk hi (blk_below (g := gb266) (o := .cells #[.int .i64 0, .slice none 0 0] 26 (0, 0)) (zR BK266.out) hb2) (by decide))); replace BK266 := zA (zB1 BK266.out hb2); (try clear hb); (try clear hb2); (try clear hi); (try clear hgw)) | (refine zO (some 15) Tryd.func97 #[.pointer (some ⟨g270, 0, none⟩), .int .i64 a1] ?_; (with_reducible refine (spec_l02Draw.calls k g270 t267 t268 t269 a1 t271 t272 t275 t276 w0 _ ?side1 ?side2 A5.out).mono ?_); (case side1 => exact Z101.uB HI270.out NB270_266.out); (case side2 => exact zV HB.out (Z101.ge HI270.out) GE266.out); rintro e w12 ⟨v273, rfl, ho0, hi, hb, hk⟩; refine ⟨_, rfl, ?_⟩; replace BK266 := zA (zB2 hk BK266.out NB266_270.out); have HO274 := zA (kI ho0 (kP (zV HBW.out GWS270.out GW266.out))); replace HBW := zA (Z101.below_keepW HB00.out (zV HBW.out GWS270.out GW266.out) hk hb GWS270.out); replace HB := zA (hb); replace HI270 := zA (hi); (try clear hb); (try clear hk); (try clear hi); (try clear ho0)) | (refine zBE 10 #[.int .i64 0, .slice none 0 0] 26 ?_; intro gb277 hg w13 hbox hb; replace HO274 := zA (kL (zP HO274.out) hb); replace HB := zA (kQ (zV HB.out (Z101.ge HI270.out) GE266.out) hb); have BK277 := zA (hbox); have GW277 := zA (zB6 hg (kP (zV HBW.out GWS270.out GW266.out)) : w.heap.size ≤ gb277); have GE277 := zA ((Nat.le_trans HW0.out (by rw [hg]; exact (kP (zV HBW.out GWS270.out GW266.out)) : w.heap.size ≤ gb277) : w0.heap.size ≤ gb277)); replace HBW := zA (kQ HBW.out hb); have NB266_277 := zA (zB4 hg BK266.out : gb266 ≠ gb277); have NB277_266 := zA (zB5 hg BK266.out : gb277 ≠ gb266); replace BK266 := zA (zB1 BK266.out hb); have NB270_277 := zA (zB7 hg (Z101.lt (show Z101 w0 _ g270 t267 t275 t276 from Z101.uB HI270.out NB270_266.out)) : g270 ≠ gb277); have NB277_270 := zA (zB8 hg (Z101.lt (show Z101 w0 _ g270 t267 t275 t276 from Z101.uB HI270.out NB270_266.out)) : gb277 ≠ g270); replace HI270 := zA (Z101.below (Z101.uB HI270.out NB270_266.out) hb); clear hb hbox hg; have hnb14 := NB277_266.out; have hnc14 := NB266_277.out; have hnb15 := NB277_270.out; have hnc15 := NB270_277.out; obtain ⟨hcz16_0, hcz16_1, hfz16_0, hfz16_1⟩ := zB3 BK277.out; obtain ⟨Ao17, co17, eo17⟩ := kM HO274.out; subst eo17) | (refine zO (some 17) Tryd.func79 #[.pointer (some ⟨g270, 0, none⟩), .int .i64 24] ?_; (with_reducible refine (spec_l01Next.calls g270 t267 t275 t276 24 t278 t279 t280 w0 _ ?side1 ?side2 A6.out).mono ?_); (case side1 => exact Z101.uC HI270.out NB270_266.out NB270_277.out); (case side2 => exact zW HB.out (Z101.ge HI270.out) GE266.out GE277.out); rintro e w18 ⟨rfl, hi, hb, hk⟩; refine ⟨_, rfl, ?_⟩; replace BK266 := zA (KeepBut.blk hk (g' := gb266) (o := .cells #[.int .i64 0, .slice none 0 0] 26 (0, 0)) (zBG BK266.out NB266_277.out NB266_277.out) NB266_270.out (by simp)); replace HO274 := zA (kA (Kd.R_keep (Z101.apart (show Z101 w0 _ g270 t267 t275 t276 from Z101.uC HI270.out NB270_266.out NB270_277.out) (zP (zFG HO274.out BK277.out (.int .i64 t271) (.slice Ao17 t272.length co17))) (by decide)) hk (fun _ h => h.2)) (fun _ h => h.1)); replace BK277 := zA (KeepBut.blk hk (g' := gb277) (o := .cells #[.int .i64 t271, .slice Ao17 t272.length co17] 26 (0, 0)) (zRP BK277.out) NB277_270.out (by simp)); replace HBW := zA (Z101.below_keepW HB00.out (zW HBW.out GWS270.out GW266.out GW277.out) hk hb GWS270.out); replace HB := zA (hb); replace HI270 := zA (hi); (try clear hb); (try clear hk); (try clear hi)) | (refine zO (some 21) Tryd.func98 #[.pointer (some ⟨g270, 0, none⟩), .int .i64 a1] ?_; (with_reducible refine (spec_l02Spoil.calls k g270 t267 t279 t280 a1 t281 t282 t285 t286 w0 _ ?side1 ?side2 A8.out).mono ?_); (case side1 => exact Z101.uC HI270.out NB270_266.out NB270_277.out); (case side2 => exact zW HB.out (Z101.ge HI270.out) GE266.out GE277.out); rintro e w19 ⟨v283, rfl, ho0, hi, hb, hk⟩; refine ⟨_, rfl, ?_⟩; replace BK266 := zA (zB2 hk BK266.out NB266_270.out); replace BK277 := zA (zB2 hk BK277.out NB277_270.out); have HO284 := zA (kI (kF ho0 (kH (zP HO274.out))) (kP (zW HBW.out GWS270.out GW266.out GW277.out))); replace HO274 := zA (kA (Kd.R_told (Kd.R_oldK (Z101.apart (show Z101 w0 _ g270 t267 t279 t280 from Z101.uC HI270.out NB270_266.out NB270_277.out) (zP HO274.out) (by decide)) hk) (kC ho0)) (fun _ h_ => h_.1)); replace HBW := zA (Z101.below_keepW HB00.out (zW HBW.out GWS270.out GW266.out GW277.out) hk hb GWS270.out); replace HB := zA (hb); replace HI270 := zA (hi); (try clear hb); (try clear hk); (try clear hi); (try clear ho0); obtain ⟨hcz20_0, hcz20_1, hfz20_0, hfz20_1⟩ := zB3 BK277.out; obtain ⟨Ao21, co21, eo21⟩ := kM HO284.out; subst eo21))
  have n0_ : Aside0 (Kd.R (Kd.int .i64) 2 ((w19.setCell ⟨gb277, 0, none⟩ (.int .i64 t281)).setCell ⟨gb277, 1, none⟩ (.slice Ao21 t282.length co21)) w.heap.size (fun k_ => some k_ ≠ (.slice Ao21 t282.length co21 : Value).ownBlock) (.slice Ao17 t272.length co17) t272) := ⟨by (with_reducible repeat (first | apply zF | apply zG | apply zH)); exact kA (kY (p := ⟨gb277, 1, none⟩) (kY (p := ⟨gb277, 0, none⟩) (kD HO274.out BK277.out (by decide)) (fun _ hk => hk.2) (.int .i64 t281)) (fun _ hk => hk.2) (.slice Ao21 t282.length co21)) (fun _ hk => hk.1.2)⟩
  have n1_ : Aside0 (Kd.R (Kd.int .i64) 2 ((w19.setCell ⟨gb277, 0, none⟩ (.int .i64 t281)).setCell ⟨gb277, 1, none⟩ (.slice Ao21 t282.length co21)) w.heap.size (fun k_ => some k_ ≠ (.slice Ao17 t272.length co17 : Value).ownBlock) (.slice Ao21 t282.length co21) t282) := ⟨by (with_reducible repeat (first | apply zF | apply zG | apply zH)); exact kA (kY (p := ⟨gb277, 1, none⟩) (kY (p := ⟨gb277, 0, none⟩) (kD HO284.out BK277.out (by decide)) (fun _ hk => hk.2) (.int .i64 t281)) (fun _ hk => hk.2) (.slice Ao21 t282.length co21)) (fun _ hk => hk.1.2)⟩
  have n2_ : Aside0 (((w19.setCell ⟨gb277, 0, none⟩ (.int .i64 t281)).setCell ⟨gb277, 1, none⟩ (.slice Ao21 t282.length co21)).heap[gb266]? = some (.cells #[.int .i64 0, .slice none 0 0] 26 (0, 0))) := ⟨by (with_reducible repeat (first | refine zJ ?_ _ | refine zK ?_ | refine zI ?_ _)); refine blk_far ?_ NB266_277.out _; (with_reducible repeat (first | refine zJ ?_ _ | refine zK ?_ | refine zI ?_ _)); refine blk_far ?_ NB266_277.out _; (with_reducible repeat (first | refine zJ ?_ _ | refine zK ?_ | refine zI ?_ _)); exact BK266.out⟩
  have n3_ : Aside0 (((w19.setCell ⟨gb277, 0, none⟩ (.int .i64 t281)).setCell ⟨gb277, 1, none⟩ (.slice Ao21 t282.length co21)).heap[gb277]? = some (.cells #[.int .i64 t281, .slice Ao21 t282.length co21] 26 (0, 0))) := ⟨by (with_reducible repeat (first | refine zJ ?_ _ | refine zK ?_ | refine zI ?_ _)); refine blk_put (cs := #[.int .i64 t281, .slice Ao17 t272.length co17]) ?_ 1 _ rfl; (with_reducible repeat (first | refine zJ ?_ _ | refine zK ?_ | refine zI ?_ _)); refine blk_put (cs := #[.int .i64 t271, .slice Ao17 t272.length co17]) ?_ 0 _ rfl; (with_reducible repeat (first | refine zJ ?_ _ | refine zK ?_ | refine zI ?_ _)); exact BK277.out⟩
  have n4_ : Aside0 (Z101 w0 ((w19.setCell ⟨gb277, 0, none⟩ (.int .i64 t281)).setCell ⟨gb277, 1, none⟩ (.slice Ao21 t282.length co21)) g270 t267 t285 t286) := ⟨Z101.uC HI270.out NB270_266.out NB270_277.out⟩
  have n5_ : Aside0 (Below w0.heap.size w0 ((w19.setCell ⟨gb277, 0, none⟩ (.int .i64 t281)).setCell ⟨gb277, 1, none⟩ (.slice Ao21 t282.length co21))) := ⟨zW HB.out (Z101.ge HI270.out) GE266.out GE277.out⟩
  have n5w_ : Aside0 (Below w.heap.size w ((w19.setCell ⟨gb277, 0, none⟩ (.int .i64 t281)).setCell ⟨gb277, 1, none⟩ (.slice Ao21 t282.length co21))) := ⟨zW HBW.out GWS270.out GW266.out GW277.out⟩
  (try clear HO274)
  (try clear HO284)
  (try clear BK266)
  (try clear BK277)
  (try clear HI270)
  (try clear HB HBW)
  generalize ((w19.setCell ⟨gb277, 0, none⟩ (.int .i64 t281)).setCell ⟨gb277, 1, none⟩ (.slice Ao21 t282.length co21)) = w22 at n0_ n1_ n2_ n3_ n4_ n5_ n5w_ ⊢
  have HO274 := n0_
  have HO284 := n1_
  have BK266 := n2_
  have BK277 := n3_
  have HI270 := n4_
  have HB := n5_
  have HBW := n5w_
  clear n0_ n1_ n2_ n3_ n4_ n5_
  have n0_ := zA (zH HO274.out)
  have n1_ := zA (zH HO284.out)
  have n2_ := zA (zK BK266.out)
  have n3_ := zA (zK BK277.out)
  have n4_ := zA (Z101.drew HI270.out)
  have n5_ := zA (zD HB.out)
  have n5w_ := zA (zD HBW.out)
  clear HO274 HO284 BK266 BK277 HI270 HB HBW
  have HO274 := n0_
  have HO284 := n1_
  have BK266 := n2_
  have BK277 := n3_
  have HI270 := n4_
  have HB := n5_
  have HBW := n5w_
  clear n0_ n1_ n2_ n3_ n4_ n5_
  refine start_ (n := 9) (S := fun w' => w'.cell? ⟨gb277, 0, none⟩ = some (.int .i64 t281) ∧ w'.cell? ⟨gb277, 1, none⟩ = some (.slice Ao21 t282.length co21)) (ds := []) #[false, false, false, false, false, false, false, false, false] (by kernel_rfl) rfl rfl ⟨(kV BK277.out 0).trans rfl, (kV BK277.out 1).trans rfl⟩ (fun hHeld => ?_); refine with_tabW spec_l03Pair.tab5 spec_l03Pair.bits5 (fun HT_ HW_ => ?_)
  generalize w22.drew = w23 at HO274 HO284 BK266 BK277 HI270 HB HBW hHeld ⊢
  refine zp 0 (some 22) #[true, false, false, false, false, false, false, false, false] HT_.out ?_
  refine zp 2 (some 24) #[true, false, true, false, false, false, false, false, false] HT_.out ?_
  refine zp 4 (some 26) #[true, false, true, false, true, false, false, false, false] HT_.out ?_
  refine zc 1 (some 23) #[true, true, true, false, true, false, false, false, false] HT_.out HW_.out hHeld ?_
  refine zc 3 (some 25) #[true, true, true, true, true, false, false, false, false] HT_.out HW_.out hHeld ?_
  refine one_ (i := 5) (N := some 27) #[true, true, true, true, true, true, false, false, false] rfl rfl (one_of HT_.out (by kernel_rfl)) (by decide) (fun K hK => ?_)
  refine goes_ Tryd.func99 (by kernel_rfl) rfl #[.pointer (some ⟨g270, 0, none⟩), .agg #[.int .i64 t281, .slice Ao21 t282.length co21], .int .i64 a2] (by rfl) rfl rfl zg ?_
  with_reducible refine (spec_l03Spoil.calls k g270 t267 t285 t286 t281 _ _ t282 a2 t287 t290 t291 w0 _ ?side1 ?side2 ?side3 ?side4 ?side5 A9.out).mono ?_
  (case side1 => exact Z101.uC HI270.out NB270_266.out NB270_277.out)
  (case side2 => exact zW HB.out (Z101.ge HI270.out) GE266.out GE277.out)
  (case side3 => exact zS (kB HO284.out).2.2)
  (case side4 => exact (kB HO284.out).2.1)
  (case side5 => exact jJ (Z101.own_ne HI270.out HO284.out (by decide)))
  rintro e w24 ⟨v288, rfl, ho0, hi, hb, hk⟩
  refine ⟨_, rfl, ?_⟩
  replace BK266 := zA (zB2 hk BK266.out NB266_270.out)
  replace BK277 := zA (zB2 hk BK277.out NB277_270.out)
  have HO289 := zA (kI (kF (kF ho0 (kH (zP HO274.out))) (kH (zP HO284.out))) (kP (zW HBW.out GWS270.out GW266.out GW277.out)))
  replace HO274 := zA (kA (Kd.R_told (Kd.R_oldK (Z101.apart (show Z101 w0 _ g270 t267 t285 t286 from Z101.uC HI270.out NB270_266.out NB270_277.out) (zP HO274.out) (by decide)) hk) (kC ho0)) (fun _ h_ => h_.1))
  replace HO284 := zA (kA (Kd.R_told (Kd.R_oldK (Z101.apart (show Z101 w0 _ g270 t267 t285 t286 from Z101.uC HI270.out NB270_266.out NB270_277.out) (zP HO284.out) (by decide)) hk) (kC ho0)) (fun _ h_ => h_.1))
  replace HBW := zA (Z101.below_keepW HB00.out (zW HBW.out GWS270.out GW266.out GW277.out) hk hb GWS270.out)
  replace HB := zA (hb)
  replace HI270 := zA (hi)
  (try clear hb)
  (try clear hb2)
  (try clear hk)
  (try clear hi)
  (try clear hgw)
  (try clear ho0)
  refine hK.out _ _ ⟨(kV BK277.out 0).trans rfl, (kV BK277.out 1).trans rfl⟩ (fun hHeld => ?_)
  clear hK K
  refine norm_ (a' := ?_) ?_ ?_
  rotate_left
  ·show Act.put _ (some 27) _ = _
   simp only [Act.put, zL, zM, zN, i64_w, i32_w]
   rfl
  refine zp 6 (some 6) #[true, true, true, true, true, true, true, false, false] HT_.out ?_
  refine one_ (i := 7) (N := none) #[true, true, true, true, true, true, true, true, false] rfl rfl (one_of HT_.out (by kernel_rfl)) (by decide) (fun K hK => ?_)
  have hs25 : w24.cell? ⟨gb266, 0, none⟩ = some (.int .i64 0) := (kV BK266.out 0).trans rfl
  have hfs25 := jH BK266.out 0
  have hns25_1 := NB277_266.out
  have hms25_1 := NB266_277.out
  have hs26 : w24.cell? ⟨gb266, 1, none⟩ = some (.slice none 0 0) := (kV BK266.out 1).trans rfl
  have hfs26 := jH BK266.out 1
  have hns26_1 := NB277_266.out
  have hms26_1 := NB266_277.out
  refine skip_ (w1 := ?_) (by rfl) rfl ?_ ?_
  rotate_left
  ·go_simp
   rfl
  refine hK.out _ _ ⟨((cell_far (p := ⟨gb266, _, none⟩) NB277_266.out _).trans (((cell_far (p := ⟨gb266, _, none⟩) NB277_266.out _).trans (hHeld.1)))), ((cell_far (p := ⟨gb266, _, none⟩) NB277_266.out _).trans (((cell_far (p := ⟨gb266, _, none⟩) NB277_266.out _).trans (hHeld.2))))⟩ (fun hHeld => ?_)
  clear hK K
  refine zp 8 (some 8) #[true, true, true, true, true, true, true, true, true] HT_.out ?_
  refine done_ (done_of HT_.out (by kernel_rfl)) ?_
  try go_wp2
  refine bodyPost_ret (results_list (rs := [.tmp 6, .cell 7 26, .tmp 8]) rfl (by simp) (.tmp (.cell gb266 26 #[.int .i64 t281, .slice Ao21 t282.length co21] (0, 0) _ rfl (zRP BK266.out) Tryd.underlying26 rfl (by kernel_rfl) (.tmp .nil)))) rfl ?_
  exact ⟨_, _, _, zr, by (with_reducible repeat (first | apply zF | apply zG | apply zH)); exact kA (kY (p := ⟨gb266, 1, none⟩) (kY (p := ⟨gb266, 0, none⟩) (kD HO284.out BK266.out (by decide)) (fun _ hk => hk.2) (.int .i64 t281)) (fun _ hk => hk.2) (.slice Ao21 t282.length co21)) (fun _ hk => hk.1.2), by (with_reducible repeat (first | apply zF | apply zG | apply zH)); exact kA (kY (p := ⟨gb266, 1, none⟩) (kY (p := ⟨gb266, 0, none⟩) (kD HO289.out BK266.out (by decide)) (fun _ hk => hk.2) (.int .i64 t281)) (fun _ hk => hk.2) (.slice Ao21 t282.length co21)) (fun _ hk => hk.1.2), (show Z101 w0 _ g270 t267 t290 t291 from Z101.uC HI270.out NB270_266.out NB270_277.out), zW HB.out (Z101.ge HI270.out) GE266.out GE277.out, zW HBW.out GWS270.out GW266.out GW277.out, GWS270.out⟩
 rw [if_neg c7] at H
 obtain ⟨c7b0, c7b1⟩ := zT2 c7
 obtain ⟨⟨t292, t295, t296⟩, A27, H⟩ := zb H
 try dsimp only at H
 simp only [Option.some.injEq, Prod.mk.injEq] at H
 obtain ⟨rfl, rfl, rfl, rfl, rfl, rfl⟩ := H
 go_enter Tryd.func48, Tryd.ntmps48
 try go_wp2_with (first | (refine zBE 7 #[.int .i64 0, .slice none 0 0] 26 ?_; intro gb266 hg w28 hbox hb; replace HB := zA (kQ (zQ HB.out) hb); have BK266 := zA (hbox); have GW266 := zA (zBH hg HBW.out); have GE266 := zA ((Nat.le_trans HW0.out (by rw [hg]; exact (kP (zQ HBW.out)) : w.heap.size ≤ gb266) : w0.heap.size ≤ gb266)); replace HBW := zA (kQ HBW.out hb); clear hb hbox hg) | (refine zO (some 12) Tryd.func93 #[.slice A0 l0.length c0] ?_; (with_reducible refine (spec_l01From.calls k _ _ l0 t267 t268 t269 w0 _ ?side1 ?side2 ?side3 A4.out).mono ?_); (case side1 => exact zT HB.out GE266.out); (case side2 => exact HR0.out); (case side3 => exact HC0.out); rintro e w29 ⟨g270, rfl, hi, hb, hb2, hgw⟩; refine ⟨_, rfl, ?_⟩; have GWS270 := zA ((Nat.le_trans (kP (zT HBW.out GW266.out)) hgw : w.heap.size ≤ g270)); replace HBW := zA (kQ (zT HBW.out GW266.out) hb2); replace HB := zA (hb); have HI270 := zA (hi); have NB270_266 := zA (Z101.ne_blk hi (blk_below (g := gb266) (o := .cells #[.int .i64 0, .slice none 0 0] 26 (0, 0)) (zR BK266.out) hb2) (by decide)); have NB266_270 := zA (Ne.symm (Z101.ne_blk hi (blk_below (g := gb266) (o := .cells #[.int .i64 0, .slice none 0 0] 26 (0, 0)) (zR BK266.out) hb2) (by decide))); replace BK266 := zA (zB1 BK266.out hb2); (try clear hb); (try clear hb2); (try clear hi); (try clear hgw)) | (refine zO (some 15) Tryd.func97 #[.pointer (some ⟨g270, 0, none⟩), .int .i64 a1] ?_; (with_reducible refine (spec_l02Draw.calls k g270 t267 t268 t269 a1 t271 t272 t275 t276 w0 _ ?side1 ?side2 A5.out).mono ?_); (case side1 => exact Z101.uB HI270.out NB270_266.out); (case side2 => exact zV HB.out (Z101.ge HI270.out) GE266.out); rintro e w30 ⟨v273, rfl, ho0, hi, hb, hk⟩; refine ⟨_, rfl, ?_⟩; replace BK266 := zA (zB2 hk BK266.out NB266_270.out); have HO274 := zA (kI ho0 (kP (zV HBW.out GWS270.out GW266.out))); replace HBW := zA (Z101.below_keepW HB00.out (zV HBW.out GWS270.out GW266.out) hk hb GWS270.out); replace HB := zA (hb); replace HI270 := zA (hi); (try clear hb); (try clear hk); (try clear hi); (try clear ho0)) | (refine zBE 10 #[.int .i64 0, .slice none 0 0] 26 ?_; intro gb277 hg w31 hbox hb; replace HO274 := zA (kL (zP HO274.out) hb); replace HB := zA (kQ (zV HB.out (Z101.ge HI270.out) GE266.out) hb); have BK277 := zA (hbox); have GW277 := zA (zB6 hg (kP (zV HBW.out GWS270.out GW266.out)) : w.heap.size ≤ gb277); have GE277 := zA ((Nat.le_trans HW0.out (by rw [hg]; exact (kP (zV HBW.out GWS270.out GW266.out)) : w.heap.size ≤ gb277) : w0.heap.size ≤ gb277)); replace HBW := zA (kQ HBW.out hb); have NB266_277 := zA (zB4 hg BK266.out : gb266 ≠ gb277); have NB277_266 := zA (zB5 hg BK266.out : gb277 ≠ gb266); replace BK266 := zA (zB1 BK266.out hb); have NB270_277 := zA (zB7 hg (Z101.lt (show Z101 w0 _ g270 t267 t275 t276 from Z101.uB HI270.out NB270_266.out)) : g270 ≠ gb277); have NB277_270 := zA (zB8 hg (Z101.lt (show Z101 w0 _ g270 t267 t275 t276 from Z101.uB HI270.out NB270_266.out)) : gb277 ≠ g270); replace HI270 := zA (Z101.below (Z101.uB HI270.out NB270_266.out) hb); clear hb hbox hg; have hnb32 := NB277_266.out; have hnc32 := NB266_277.out; have hnb33 := NB277_270.out; have hnc33 := NB270_277.out; obtain ⟨hcz34_0, hcz34_1, hfz34_0, hfz34_1⟩ := zB3 BK277.out; obtain ⟨Ao35, co35, eo35⟩ := kM HO274.out; subst eo35) | (refine zO (some 17) Tryd.func79 #[.pointer (some ⟨g270, 0, none⟩), .int .i64 24] ?_; (with_reducible refine (spec_l01Next.calls g270 t267 t275 t276 24 t278 t279 t280 w0 _ ?side1 ?side2 A6.out).mono ?_); (case side1 => exact Z101.uC HI270.out NB270_266.out NB270_277.out); (case side2 => exact zW HB.out (Z101.ge HI270.out) GE266.out GE277.out); rintro e w36 ⟨rfl, hi, hb, hk⟩; refine ⟨_, rfl, ?_⟩; replace BK266 := zA (KeepBut.blk hk (g' := gb266) (o := .cells #[.int .i64 0, .slice none 0 0] 26 (0, 0)) (zBG BK266.out NB266_277.out NB266_277.out) NB266_270.out (by simp)); replace HO274 := zA (kA (Kd.R_keep (Z101.apart (show Z101 w0 _ g270 t267 t275 t276 from Z101.uC HI270.out NB270_266.out NB270_277.out) (zP (zFG HO274.out BK277.out (.int .i64 t271) (.slice Ao35 t272.length co35))) (by decide)) hk (fun _ h => h.2)) (fun _ h => h.1)); replace BK277 := zA (KeepBut.blk hk (g' := gb277) (o := .cells #[.int .i64 t271, .slice Ao35 t272.length co35] 26 (0, 0)) (zRP BK277.out) NB277_270.out (by simp)); replace HBW := zA (Z101.below_keepW HB00.out (zW HBW.out GWS270.out GW266.out GW277.out) hk hb GWS270.out); replace HB := zA (hb); replace HI270 := zA (hi); (try clear hb); (try clear hk); (try clear hi)))
 have n0_ := zA (zH HO274.out)
 have n1_ := zA (zK BK266.out)
 have n2_ := zA (zK BK277.out)
 have n3_ := zA (Z101.drew HI270.out)
 have n4_ := zA (zD HB.out)
 have n4w_ := zA (zD HBW.out)
 clear HO274 BK266 BK277 HI270 HB HBW
 have HO274 := n0_
 have BK266 := n1_
 have BK277 := n2_
 have HI270 := n3_
 have HB := n4_
 have HBW := n4w_
 clear n0_ n1_ n2_ n3_ n4_
 refine start_ (n := 9) (S := fun w' => w'.cell? ⟨gb277, 0, none⟩ = some (.int .i64 t271) ∧ w'.cell? ⟨gb277, 1, none⟩ = some (.slice Ao35 t272.length co35)) (ds := []) #[false, false, false, false, false, false, false, false, false] (by kernel_rfl) rfl rfl ⟨(kV BK277.out 0).trans rfl, (kV BK277.out 1).trans rfl⟩ (fun hHeld => ?_); refine with_tabW spec_l03Pair.tab5 spec_l03Pair.bits5 (fun HT_ HW_ => ?_)
 generalize w36.drew = w37 at HO274 BK266 BK277 HI270 HB HBW hHeld ⊢
 refine zp 0 (some 22) #[true, false, false, false, false, false, false, false, false] HT_.out ?_
 refine zp 2 (some 24) #[true, false, true, false, false, false, false, false, false] HT_.out ?_
 refine zp 4 (some 26) #[true, false, true, false, true, false, false, false, false] HT_.out ?_
 refine zc 1 (some 23) #[true, true, true, false, true, false, false, false, false] HT_.out HW_.out hHeld ?_
 refine zc 3 (some 25) #[true, true, true, true, true, false, false, false, false] HT_.out HW_.out hHeld ?_
 refine one_ (i := 5) (N := some 27) #[true, true, true, true, true, true, false, false, false] rfl rfl (one_of HT_.out (by kernel_rfl)) (by decide) (fun K hK => ?_)
 refine goes_ Tryd.func99 (by kernel_rfl) rfl #[.pointer (some ⟨g270, 0, none⟩), .agg #[.int .i64 t271, .slice Ao35 t272.length co35], .int .i64 a2] (by rfl) rfl rfl zg ?_
 with_reducible refine (spec_l03Spoil.calls k g270 t267 t279 t280 t271 _ _ t272 a2 t292 t295 t296 w0 _ ?side1 ?side2 ?side3 ?side4 ?side5 A27.out).mono ?_
 (case side1 => exact Z101.uC HI270.out NB270_266.out NB270_277.out)
 (case side2 => exact zW HB.out (Z101.ge HI270.out) GE266.out GE277.out)
 (case side3 => exact zS (kB HO274.out).2.2)
 (case side4 => exact (kB HO274.out).2.1)
 (case side5 => exact jJ (Z101.own_ne HI270.out HO274.out (by decide)))
 rintro e w38 ⟨v293, rfl, ho0, hi, hb, hk⟩
 refine ⟨_, rfl, ?_⟩
 replace BK266 := zA (zB2 hk BK266.out NB266_270.out)
 replace BK277 := zA (zB2 hk BK277.out NB277_270.out)
 have HO294 := zA (kI (kF ho0 (kH (zP HO274.out))) (kP (zW HBW.out GWS270.out GW266.out GW277.out)))
 replace HO274 := zA (kA (Kd.R_told (Kd.R_oldK (Z101.apart (show Z101 w0 _ g270 t267 t279 t280 from Z101.uC HI270.out NB270_266.out NB270_277.out) (zP HO274.out) (by decide)) hk) (kC ho0)) (fun _ h_ => h_.1))
 replace HBW := zA (Z101.below_keepW HB00.out (zW HBW.out GWS270.out GW266.out GW277.out) hk hb GWS270.out)
 replace HB := zA (hb)
 replace HI270 := zA (hi)
 (try clear hb)
 (try clear hb2)
 (try clear hk)
 (try clear hi)
 (try clear hgw)
 (try clear ho0)
 refine hK.out _ _ ⟨(kV BK277.out 0).trans rfl, (kV BK277.out 1).trans rfl⟩ (fun hHeld => ?_)
 clear hK K
 refine norm_ (a' := ?_) ?_ ?_
 rotate_left
 ·show Act.put _ (some 27) _ = _
  simp only [Act.put, zL, zM, zN, i64_w, i32_w]
  rfl
 refine zp 6 (some 6) #[true, true, true, true, true, true, true, false, false] HT_.out ?_
 refine one_ (i := 7) (N := none) #[true, true, true, true, true, true, true, true, false] rfl rfl (one_of HT_.out (by kernel_rfl)) (by decide) (fun K hK => ?_)
 have hs39 : w38.cell? ⟨gb266, 0, none⟩ = some (.int .i64 0) := (kV BK266.out 0).trans rfl
 have hfs39 := jH BK266.out 0
 have hns39_1 := NB277_266.out
 have hms39_1 := NB266_277.out
 have hs40 : w38.cell? ⟨gb266, 1, none⟩ = some (.slice none 0 0) := (kV BK266.out 1).trans rfl
 have hfs40 := jH BK266.out 1
 have hns40_1 := NB277_266.out
 have hms40_1 := NB266_277.out
 refine skip_ (w1 := ?_) (by rfl) rfl ?_ ?_
 rotate_left
 ·go_simp
  rfl
 refine hK.out _ _ ⟨((cell_far (p := ⟨gb266, _, none⟩) NB277_266.out _).trans (((cell_far (p := ⟨gb266, _, none⟩) NB277_266.out _).trans (hHeld.1)))), ((cell_far (p := ⟨gb266, _, none⟩) NB277_266.out _).trans (((cell_far (p := ⟨gb266, _, none⟩) NB277_266.out _).trans (hHeld.2))))⟩ (fun hHeld => ?_)
 clear hK K
 refine zp 8 (some 8) #[true, true, true, true, true, true, true, true, true] HT_.out ?_
 refine done_ (done_of HT_.out (by kernel_rfl)) ?_
 try go_wp2
 refine bodyPost_ret (results_list (rs := [.tmp 6, .cell 7 26, .tmp 8]) rfl (by simp) (.tmp (.cell gb266 26 #[.int .i64 t271, .slice Ao35 t272.length co35] (0, 0) _ rfl (zRP BK266.out) Tryd.underlying26 rfl (by kernel_rfl) (.tmp .nil)))) rfl ?_
 exact ⟨_, _, _, zr, by (with_reducible repeat (first | apply zF | apply zG | apply zH)); exact kA (kY (p := ⟨gb266, 1, none⟩) (kY (p := ⟨gb266, 0, none⟩) (kD HO274.out BK266.out (by decide)) (fun _ hk => hk.2) (.int .i64 t271)) (fun _ hk => hk.2) (.slice Ao35 t272.length co35)) (fun _ hk => hk.1.2), by (with_reducible repeat (first | apply zF | apply zG | apply zH)); exact kA (kY (p := ⟨gb266, 1, none⟩) (kY (p := ⟨gb266, 0, none⟩) (kD HO294.out BK266.out (by decide)) (fun _ hk => hk.2) (.int .i64 t271)) (fun _ hk => hk.2) (.slice Ao35 t272.length co35)) (fun _ hk => hk.1.2), (show Z101 w0 _ g270 t267 t295 t296 from Z101.uC HI270.out NB270_266.out NB270_277.out), zW HB.out (Z101.ge HI270.out) GE266.out GE277.out, zW HBW.out GWS270.out GW266.out GW277.out, GWS270.out⟩
def impl_length_int64.f (l0 : List Int) : Option (Int) := some (l0.length : Int)
set_option maxHeartbeats 8000000 in
set_option maxRecDepth 100000 in
theorem impl_length_int64.calls (A0 : Option Addr) (c0 : Nat) (l0 : List Int) (r : Int) (w : World) (hr0 : Kd.C (Kd.int .i64) w A0 l0.length l0) (hc0 : l0.length ≤ c0) (h : impl_length_int64.f l0 = some r) :
  Calls Tryd.prog 82 #[.slice A0 l0.length c0] w fun e w' => e = .returned (.int .i64 r) ∧ Drawn0 w w' := by
 have HR0 := zA hr0
 have HC0 := zA hc0
 clear hr0 hc0
 have H := h
 unfold impl_length_int64.f at H
 clear h
 obtain rfl := Option.some.inj H
 go_enter Tryd.func82, Tryd.ntmps82
 go_wp2
 go_ret
 exact ⟨zs, by repeat (first | exact Drawn0.refl _ | apply Drawn0.step)⟩
def impl_one.f (a0 : Int) : Option (Int) := if 0 ≤ a0 then (some (shl .i64 1 a0)) else (none)
set_option maxHeartbeats 8000000 in
set_option maxRecDepth 100000 in
theorem impl_one.calls (a0 : Int) (r : Int) (w : World) (h : impl_one.f a0 = some r) :
  Calls Tryd.prog 105 #[.int .i64 a0] w fun e w' => e = .returned (.int .i64 r) ∧ Drawn0 w w' := by
 have H := h
 unfold impl_one.f at H
 clear h
 by_cases c2 : 0 ≤ a0
 ·rw [if_pos c2] at H
  have c2b0 := eq_true c2
  have c2b1 : decide (0 ≤ a0) = true := decide_eq_true c2
  clear c2
  obtain ⟨ji3, hji3⟩ : ∃ j_ : Int, (shl .i64 1 a0) = j_ := ⟨_, rfl⟩
  replace H : (some ji3) = some r := by first | (rw [hji3] at H; exact H) | (simp only [hji3] at H ⊢; exact H)
  have hji3_ : (IntKind.i64.wrap (1 * 2 ^ min a0.toNat 64)) = ji3 := hji3
  have hji3z : a0 ≤ 64 → (IntKind.i64.wrap (1 * 2 ^ a0.toNat)) = ji3 := shl_small hji3
  have hji3u : (IntKind.i64.wrap (2 ^ min a0.toNat 64)) = ji3 := by have h_ := hji3_; rw [Int.one_mul] at h_; exact h_
  have hji3v : a0 ≤ 64 → (IntKind.i64.wrap (2 ^ a0.toNat)) = ji3 := fun hle_ => by have h_ := hji3z hle_; rw [Int.one_mul] at h_; exact h_
  have hji3y : (wrap64 (1 * 2 ^ min a0.toNat 64)) = ji3 := (i64_w _).symm.trans hji3_
  have hji3x : a0 ≤ 64 → (wrap64 (1 * 2 ^ a0.toNat)) = ji3 := fun h_ => (i64_w _).symm.trans (hji3z h_)
  obtain rfl := Option.some.inj H
  go_enter Tryd.func105, Tryd.ntmps105
  go_wp2
  go_ret
  exact ⟨by first | rfl | (simp; done) | (simp only [← hji3] <;> (first | rfl | simp)) | (simp [*]; done), by repeat (first | exact Drawn0.refl _ | apply Drawn0.step)⟩
 rw [if_neg c2] at H
 exact absurd H (by simp)
def bits_TrailingZeros64.f (a0 : Int) : Option Int := if 0 ≤ a0 ∧ a0 < 18446744073709551616 then some (Lib.ctz 64 a0.toNat : Int) else none
set_option maxHeartbeats 1000000 in
theorem tz64_core (x k idx : Nat) (w : World) (hx0 : ((x : Int) == 0) = false)
  (key : IntKind.u64.wrap (bits BinOp.and IntKind.u64 (x : Int) (IntKind.u64.wrap (-(x : Int))) * 285870213051353865) / 288230376151711744 = (idx : Int))
  (hi : idx < 64) (hk : k < 64) (hcell : w.cell? ⟨0, idx, none⟩ = some (.int .u8 k)) :
  Calls Tryd.prog 112 #[.int .u64 x] w fun e w' => e = .returned (.int .i64 k) ∧ w = w' := by
 go_enter Tryd.func112, Tryd.ntmps112
 go_wp2_with (simp only [key])
 go_ret
 exact ⟨rfl, rfl⟩
theorem tz64_zero (w : World) : Calls Tryd.prog 112 #[.int .u64 0] w fun e w' => e = .returned (.int .i64 64) ∧ w = w' := by
 go_enter Tryd.func112, Tryd.ntmps112
 go_wp2
 go_ret
 exact ⟨rfl, rfl⟩
theorem tz64_key (x a : Nat) (hx : x < 18446744073709551616) (hx0 : x ≠ 0) (hlow : x &&& (18446744073709551616 - x) = a) :
  IntKind.u64.wrap (bits BinOp.and IntKind.u64 (x : Int) (IntKind.u64.wrap (-(x : Int))) * 285870213051353865) / 288230376151711744 = ((a * 285870213051353865 % 18446744073709551616 / 288230376151711744 : Nat) : Int) := by
 have e1 : IntKind.u64.wrap (-(x : Int)) = ((18446744073709551616 - x : Nat) : Int) := by rw [IntKind.wrap_u64]; omega
 rw [e1, bits_and_u64_nat x _ hx (by omega), hlow, IntKind.wrap_u64]
 omega
theorem bits_TrailingZeros64.calls (a0 : Int) (r : Int) (w : World) (hT : TabW w) (h : bits_TrailingZeros64.f a0 = some r) :
  Calls Tryd.prog 112 #[.int .u64 a0] w fun e w' => e = .returned (.int .i64 r) ∧ Drawn0 w w' := by
 unfold bits_TrailingZeros64.f at h
 split at h
 ·rename_i hr
  obtain ⟨x, rfl⟩ := Int.eq_ofNat_of_zero_le hr.1
  rw [Int.toNat_natCast] at h
  injection h with h
  subst h
  by_cases hx0 : x = 0
  ·subst hx0
   exact (tz64_zero w).mono fun e w' ⟨he, hw⟩ => ⟨he, ⟨0, hw.symm⟩⟩
  obtain ⟨hlow, hk⟩ := Lib.lowest_bit 64 x hx0 (by omega)
  obtain ⟨hi, htab⟩ := Lib.deBruijn64_at _ hk
  have hcell := hT _ hi
  rw [htab] at hcell
  exact (tz64_core x _ _ w (by simp; omega) (tz64_key x _ (by omega) hx0 hlow) hi hk hcell).mono fun e w' ⟨he, hw⟩ => ⟨he, ⟨0, hw.symm⟩⟩
 cases h
def impl_least.f (a0 : Int) : Option (Int) := (bits_TrailingZeros64.f (IntKind.u64.wrap (a0))).bind fun t310 => (some t310)
set_option maxHeartbeats 8000000 in
set_option maxRecDepth 100000 in
theorem impl_least.calls (a0 : Int) (r : Int) (w : World) (hT : TabW w) (h : impl_least.f a0 = some r) :
  Calls Tryd.prog 62 #[.int .i64 a0] w fun e w' => e = .returned (.int .i64 r) ∧ Drawn0 w w' := by
 have HT := zA hT
 clear hT
 have H := h
 unfold impl_least.f at H
 clear h
 obtain ⟨t310, A2, H⟩ := zb H
 try dsimp only at H
 obtain rfl := Option.some.inj H
 go_enter Tryd.func62, Tryd.ntmps62
 go_wp2_with (first | (refine zO (some 5) Tryd.func112 #[.int .u64 (IntKind.u64.wrap (a0))] ?_; (with_reducible refine (bits_TrailingZeros64.calls (IntKind.u64.wrap (a0)) t310 _ ?side1 A2.out).mono ?_); (case side1 => repeat (first | (with_reducible first | exact HT.out | apply TabW.drewN | apply TabW.drew | apply TabW.alloc) | exact HT.out)); rintro e w' ⟨rfl, ⟨nd, rfl⟩⟩; refine ⟨_, rfl, ?_⟩))
 go_ret
 exact ⟨zs, by repeat (first | exact Drawn0.refl _ | apply Drawn0.step)⟩
def impl_members.l0 : Nat → Int → List Int → Option (List Int)
 | 0, _, _ => none
 | k + 1, x0, x3 => if x0 = 0 then (some x3) else ((impl_least.f x0).bind fun t314 => (if x3.length < 17592186044416 then (impl_members.l0 k (Go.bits .and .i64 x0 (wrap64 (x0 - 1))) (x3 ++ [t314])) else (none)))
def impl_members.f (k : Nat) (a0 : Int) : Option (List Int) := impl_members.l0 k a0 (([] : List Int))
set_option maxHeartbeats 8000000 in
set_option maxRecDepth 100000 in
theorem impl_members.calls (k : Nat) (a0 : Int) (r : List Int) (w : World) (hT : TabW w) (h : impl_members.f k a0 = some r) :
  Calls Tryd.prog 119 #[.int .i64 a0] w fun e w' => ∃ v0_ : Value, e = .returned (v0_) ∧ Kd.R (Kd.int .i64) 2 w' w.heap.size (fun _ => True) v0_ r ∧ Below w.heap.size w w' := by
 have HT := zA hT
 clear hT
 have HB := zA (kW w.heap.size w)
 have H := h
 unfold impl_members.f at H
 clear h
 obtain ⟨y311, hy311⟩ : ∃ y_ : List Int, y_ = (([] : List Int)) := ⟨_, rfl⟩
 replace H : (impl_members.l0 k a0 y311) = some r := zy hy311 H
 have Ny311 := zA hy311
 clear hy311
 have H' := zA H
 clear H
 go_enter Tryd.func119, Tryd.ntmps119
 go_wp2_with (first | ((with_reducible refine kS (N := 4) rfl ?_); refine Kd.R_lit (Kd.int .i64) _ 2 ?hg (N := 4) ?hd (xs := ([] : List Int)) (inner := []) (ok := fun _ => True) (okp := fun _ => True) ?hr ?hp (fun _ hk => hk) trivial (kW _ _) (Nat.le_refl _) (by simp) ?_; (case hd => rfl); (case hg => rfl); (case hr => first | (go_simp; done) | (go_simp; rfl)); (case hp => exact (Reps.none _ _)); intro v312 w2 ho3 hb hg_ hnew_; clear hg_ hnew_; (first | rw [← Ny311.out] at ho3 | (simp only [Int.reduceToNat] at ho3; rw [← Ny311.out] at ho3)); have HO313 := zA (kI ho3 (kP (zQ HB.out))); replace HB := zA (kQ (zQ HB.out) hb); clear hb ho3))
 go_loopg [0, 3] k (fun kq v0 v3 w' => ∃ (x0_1 : Int) (x3_1 : List Int), v0 = .int .i64 x0_1 ∧ Aside0 (impl_members.l0 kq x0_1 x3_1 = some r) ∧ Aside0 (kq ≤ k) ∧ Aside0 (Kd.R (Kd.int .i64) 2 w' w.heap.size (fun _ => True) v3 x3_1) ∧ Aside0 (Below w.heap.size w w'))
 case atStart => exact ⟨(a0), (y311), zs, H', ⟨Nat.le_refl _⟩, ⟨zP HO313.out⟩, ⟨zQ HB.out⟩⟩
 case round =>
  clear H'
  try clear c1
  obtain ⟨x0_1, x3_1, rfl, HA, HK1, HO_3, HB⟩ := hrel
  cases gk with
  | zero => exact absurd HA.out (by simp [impl_members.l0])
  | succ k1 =>
   have H := HA.out
   clear HA
   simp only [impl_members.l0] at H
   by_cases c4 : x0_1 = 0
   ·rw [if_pos c4] at H
    obtain ⟨c4b0, c4b1⟩ := zT1 c4
    clear c4
    obtain rfl := Option.some.inj H
    go_wp2
    go_ret
    exact ⟨_, zr, zP HO_3.out, zQ HB.out⟩
   rw [if_neg c4] at H
   obtain ⟨c4b0, c4b1⟩ := zT2 c4
   obtain ⟨t314, A5, H⟩ := zb H
   try dsimp only at H
   by_cases c6 : x3_1.length < 17592186044416
   ·rw [if_pos c6] at H
    have LMc6 := zA c6
    clear c6
    obtain ⟨y315, hy315⟩ : ∃ y_ : List Int, y_ = (x3_1 ++ [t314]) := ⟨_, rfl⟩
    replace H : (impl_members.l0 k1 (Go.bits .and .i64 x0_1 (wrap64 (x0_1 - 1))) y315) = some r := zy hy315 H
    have Ny315 := zA hy315
    clear hy315
    have H' := zA H
    clear H
    go_wp2_with (first | (refine zO (some 13) Tryd.func62 #[.int .i64 x0_1] ?_; (with_reducible refine (impl_least.calls x0_1 t314 _ ?side1 A5.out).mono ?_); (case side1 => exact TabW.below HT.out (zQ HB.out)); rintro e w' ⟨rfl, ⟨nd, rfl⟩⟩; refine ⟨_, rfl, ?_⟩) | ((with_reducible refine gate_builtin (b := .append) (xs := #[.tmp 11, .tmp 14]) rfl ?_); at_builtin; refine Kd.R_append (Kd.int .i64) (w0 := w) w.heap.size rfl (.tmp 11) (.tmp 14) 24 2 (.int .i64 0) 8 rfl Tryd.underlying24 info2 rfl (by decide) (by omega) u3 x3_1 t314 [.int .i64 t314] (fun _ => True) (fun _ => False) rfl rfl ?aP (fun _ hk => hk.elim) ?aF ?aO ?aB ?aS ?aL ?_; (case aP => exact rfl); (case aB => exact (zQ HB.out)); (case aF => exact (fun _ _ => trivial)); (case aO => exact (zP HO_3.out)); (case aS => exact (kP (zQ HB.out))); (case aL => have := LMc6.out; omega); intro v316 w7 ho hb hg hat; rw [← Ny315.out] at ho; replace HB := zA (hb); have HO317 := zA (ho); clear HO_3; clear ho hb hg hat))
    go_roundg k1
    case measure => have := HK1.out; omega
    case rel => exact ⟨(Go.bits .and .i64 x0_1 (wrap64 (x0_1 - 1))), (y315), zs, H', ⟨by have := HK1.out; omega⟩, ⟨zP HO317.out⟩, ⟨zQ HB.out⟩⟩
   rw [if_neg c6] at H
   exact absurd H (by simp)
mutual
def impl_converse.l0 : Nat → List Int → List Int → Int → Int → Option (List Int)
 | 0, _, _, _, _ => none
 | k + 1, x3, x11, x12, x13 => if x13 < x12 then (if 0 ≤ x13 then (if x13 < (x11.length : Int) then ((impl_members.f k (rd x11 x13)).bind fun t322 => (impl_converse.l1 k x3 x13 x11 x12 x13 t322 (t322.length : Int) 0)) else (none)) else (none)) else (some x3)
def impl_converse.l1 : Nat → List Int → Int → List Int → Int → Int → List Int → Int → Int → Option (List Int)
 | 0, _, _, _, _, _, _, _, _ => none
 | k + 1, x3, x4, x11, x12, x13, x19, x20, x21 => if x21 < x20 then (if 0 ≤ x21 then (if x21 < (x19.length : Int) then (if 0 ≤ (rd x19 x21) then (if (rd x19 x21) < (x3.length : Int) then ((impl_one.f x4).bind fun t327 => (impl_converse.l1 k (x3.set ((rd x19 x21) : Int).toNat (Go.bits .or .i64 (rd x3 (rd x19 x21)) t327)) x4 x11 x12 x13 x19 x20 (wrap64 (x21 + 1)))) else (none)) else (none)) else (none)) else (none)) else (impl_converse.l0 k x3 x11 x12 (wrap64 (x13 + 1)))
end
def impl_converse.f (k : Nat) (l0 : List Int) : Option (List Int) := if 0 ≤ (l0.length : Int) then (if ((l0.length : Int) : Int).toNat ≤ 35184372088832 then (impl_converse.l0 k (List.replicate ((l0.length : Int) : Int).toNat 0) l0 (l0.length : Int) 0) else (none)) else (none)
def impl_converse.T8 : Bool × List (List Nat × List Nat) := (true, [([], []), ([], []), ([0, 1], [0, 1]), ([2], [2]), ([], []), ([4], [4]), ([3, 5], [3, 5]), ([0, 1, 0, 1, 2, 3, 4, 5, 6], [0, 1]), ([7, 6, 5, 0, 1, 2, 3, 4, 5, 6], [6, 7])])
def impl_converse.B8 : List Nat := [0, 0, 3, 7, 0, 16, 63, 127, 255]
theorem impl_converse.tab8 : rtab .any (opsOf Tryd.f85 8) = impl_converse.T8 := by kernel_rfl
theorem impl_converse.bits8 : waitsOk impl_converse.T8.2 impl_converse.B8 = true := by kernel_rfl
set_option maxHeartbeats 8000000 in
set_option maxRecDepth 100000 in
theorem impl_converse.calls (k : Nat) (A0 : Option Addr) (c0 : Nat) (l0 : List Int) (r : List Int) (w : World) (hr0 : Kd.C (Kd.int .i64) w A0 l0.length l0) (hc0 : l0.length ≤ c0) (hT : TabW w) (h : impl_converse.f k l0 = some r) :
  Calls Tryd.prog 85 #[.slice A0 l0.length c0] w fun e w' => ∃ v0_ : Value, e = .returned (v0_) ∧ Kd.R (Kd.int .i64) 2 w' w.heap.size (fun _ => True) v0_ r ∧ Below w.heap.size w w' := by
 have HT := zA hT
 clear hT
 have HR0 := zA hr0
 have HC0 := zA hc0
 clear hr0 hc0
 have HB := zA (kW w.heap.size w)
 have H := h
 unfold impl_converse.f at H
 clear h
 by_cases c2 : 0 ≤ (l0.length : Int)
 ·rw [if_pos c2] at H
  have c2b0 := eq_true c2
  have c2b1 : decide (0 ≤ (l0.length : Int)) = true := decide_eq_true c2
  clear c2
  by_cases c3 : ((l0.length : Int) : Int).toNat ≤ 35184372088832
  ·rw [if_pos c3] at H
   have c3b0 := eq_true c3
   have c3b1 : decide (((l0.length : Int) : Int).toNat ≤ 35184372088832) = true := decide_eq_true c3
   clear c3
   obtain ⟨y318, hy318⟩ : ∃ y_ : List Int, y_ = (List.replicate ((l0.length : Int) : Int).toNat 0) := ⟨_, rfl⟩
   replace H : (impl_converse.l0 k y318 l0 (l0.length : Int) 0) = some r := zy hy318 H
   have Ny318 := zA hy318
   clear hy318
   have H' := zA H
   clear H
   go_enter Tryd.func85, Tryd.ntmps85
   go_wp2_with (first | ((with_reducible refine kS (N := 10) rfl ?_); refine Kd.R_make (Kd.int .i64) _ 2 rfl (N := 10) rfl 24 _ _ rfl (l0.length : Int) rfl rfl Tryd.underlying24 (.int .i64 0) 8 info2 rfl (by decide) (by omega) 0 (ok := fun _ => True) (okp := fun _ => True) rfl (fun _ hk => hk) trivial (zd) (Nat.le_trans (Nat.mul_le_mul_right _ (zd : (l0.length : Int).toNat ≤ 35184372088832)) (by omega)) (kW _ _) (Nat.le_refl _) ?_; intro v319 w4 ho5 hb hg_ hnew_; clear hg_ hnew_; (first | rw [← Ny318.out] at ho5 | (simp only [Int.reduceToNat] at ho5; rw [← Ny318.out] at ho5)); have HO320 := zA (kI ho5 (kP (zQ HB.out))); replace HB := zA (kQ (zQ HB.out) hb); clear hb ho5))
   go_loopg [13] k (fun kq v13 w' => ∃ (x3_1 : List Int) (x13_1 : Int), v13 = .int .i64 x13_1 ∧ Aside0 (impl_converse.l0 kq x3_1 l0 (l0.length : Int) x13_1 = some r) ∧ Aside0 (kq ≤ k) ∧ Aside0 (Kd.R (Kd.int .i64) 2 w' w.heap.size (fun _ => True) v319 x3_1) ∧ Aside0 (Below w.heap.size w w'))
   case atStart => exact ⟨(y318), (0), zs, H', ⟨Nat.le_refl _⟩, ⟨zP HO320.out⟩, ⟨zQ HB.out⟩⟩
   case round =>
    clear H'
    try clear c2
    try clear c3
    obtain ⟨x3_1, x13_1, rfl, HA, HK1, HO_3, HB⟩ := hrel
    cases gk with
    | zero => exact absurd HA.out (by simp [impl_converse.l0])
    | succ k1 =>
     have H := HA.out
     clear HA
     simp only [impl_converse.l0] at H
     by_cases c6 : x13_1 < (l0.length : Int)
     ·rw [if_pos c6] at H
      have c6b0 : decide (x13_1 < (l0.length : Int)) = true := decide_eq_true c6
      clear c6
      by_cases c7 : 0 ≤ x13_1
      ·rw [if_pos c7] at H
       have c7b0 : decide (0 ≤ x13_1) = true := decide_eq_true c7
       clear c7
       by_cases c8 : x13_1 < (l0.length : Int)
       ·rw [if_pos c8] at H
        have c8b0 : decide (x13_1 < (l0.length : Int)) = true := decide_eq_true c8
        clear c8
        obtain ⟨t322, A9, H⟩ := zb H
        try dsimp only at H
        have H' := zA H
        clear H
        have p321 : 0 ≤ (x13_1 : Int) := zd
        have q321 : x13_1 < (l0.length : Int) := zd
        obtain ⟨ad321, e321, hx321_0⟩ := Kd.at_int HR0.out x13_1 p321 q321
        cases e321
        replace hx321_0 := (HB.out.cell (jG w _ hx321_0)).trans hx321_0
        replace p321 := eq_true p321
        replace q321 := eq_true q321
        go_wp2_with (first | (refine zO (some 19) Tryd.func119 #[.int .i64 (rd l0 x13_1)] ?_; (with_reducible refine (impl_members.calls k1 (rd l0 x13_1) t322 _ ?side1 A9.out).mono ?_); (case side1 => exact TabW.below HT.out (zQ HB.out)); rintro e w10 ⟨v323, rfl, ho0, hb⟩; refine ⟨_, rfl, ?_⟩; have HO324 := zA (kI (kF ho0 (kH (zP HO_3.out))) (kP (zQ HB.out))); replace HO_3 := zA (kE (zP HO_3.out) (kC ho0) hb); replace HB := zA (kQ (zQ HB.out) hb); (try clear hb); (try clear ho0); obtain ⟨Ao11, co11, eo11⟩ := kM HO324.out; subst eo11))
        go_loopg [21] k1 (fun kq v21 w' => ∃ (x3_2 : List Int) (x21_2 : Int), v21 = .int .i64 x21_2 ∧ Aside0 (impl_converse.l1 kq x3_2 x13_1 l0 (l0.length : Int) x13_1 t322 (t322.length : Int) x21_2 = some r) ∧ Aside0 (kq ≤ k1) ∧ Aside0 (Kd.R (Kd.int .i64) 2 w' w.heap.size (fun k_ => some k_ ≠ ((.slice Ao11 t322.length co11) : Value).ownBlock) v319 x3_2) ∧ Aside0 (Kd.R (Kd.int .i64) 2 w' w.heap.size (fun k_ => some k_ ≠ (v319 : Value).ownBlock) (.slice Ao11 t322.length co11) t322) ∧ Aside0 (Below w.heap.size w w'))
        case atStart => exact ⟨(x3_1), (0), zs, H', ⟨Nat.le_refl _⟩, ⟨zPM HO_3.out (fun _ hk => hk.2)⟩, ⟨zPM HO324.out (fun _ hk => hk.2)⟩, ⟨zQ HB.out⟩⟩
        case round =>
         clear H'
         try clear c1
         try clear c2
         try clear c3
         try clear hx3
         try clear c6
         try clear c7
         try clear c8
         try clear c11
         try clear hx321_0
         obtain ⟨x3_2, x21_2, rfl, HA, HK2, HO_3, HO_19, HB⟩ := hrel
         cases gk with
         | zero => exact absurd HA.out (by simp [impl_converse.l1])
         | succ k2 =>
          have H := HA.out
          clear HA
          simp only [impl_converse.l1] at H
          by_cases c12 : x21_2 < (t322.length : Int)
          ·rw [if_pos c12] at H
           have c12b0 : decide (x21_2 < (t322.length : Int)) = true := decide_eq_true c12
           clear c12
           by_cases c13 : 0 ≤ x21_2
           ·rw [if_pos c13] at H
            have c13b0 : decide (0 ≤ x21_2) = true := decide_eq_true c13
            clear c13
            by_cases c14 : x21_2 < (t322.length : Int)
            ·rw [if_pos c14] at H
             have c14b0 : decide (x21_2 < (t322.length : Int)) = true := decide_eq_true c14
             clear c14
             by_cases c15 : 0 ≤ (rd t322 x21_2)
             ·rw [if_pos c15] at H
              have c15b0 : decide (0 ≤ (rd t322 x21_2)) = true := decide_eq_true c15
              clear c15
              by_cases c16 : (rd t322 x21_2) < (x3_2.length : Int)
              ·rw [if_pos c16] at H
               have c16b0 : decide ((rd t322 x21_2) < (x3_2.length : Int)) = true := decide_eq_true c16
               clear c16
               obtain ⟨t327, A17, H⟩ := zb H
               try dsimp only at H
               obtain ⟨y328, hy328⟩ : ∃ y_ : List Int, y_ = (x3_2.set ((rd t322 x21_2) : Int).toNat (Go.bits .or .i64 (rd x3_2 (rd t322 x21_2)) t327)) := ⟨_, rfl⟩
               replace H : (impl_converse.l1 k2 y328 x13_1 l0 (l0.length : Int) x13_1 t322 (t322.length : Int) (wrap64 (x21_2 + 1))) = some r := zy hy328 H
               have Ny328 := zA hy328
               clear hy328
               have H' := zA H
               clear H
               have p325 : 0 ≤ (x21_2 : Int) := zd
               have q325 : x21_2 < (t322.length : Int) := zd
               obtain ⟨ad325, e325, hx325_0⟩ := Kd.at_int (kB HO_19.out).2.2 x21_2 p325 q325
               cases e325
               replace p325 := eq_true p325
               replace q325 := eq_true q325
               try go_wp2
               replace HO_3 := zA (zH HO_3.out)
               replace HO_19 := zA (zH HO_19.out)
               replace HB := zA (zD HB.out)
               obtain ⟨Ao20, co20, eo20⟩ := kM HO_3.out
               (first | subst eo20 | (injection eo20 with f1_ f2_ f3_; have f4_ := f1_.symm; have f5_ := f3_.symm; clear f1_ f2_ f3_; subst f4_; subst f5_))
               have p326 : 0 ≤ ((rd t322 x21_2) : Int) := zd
               have q326 : (rd t322 x21_2) < (x3_2.length : Int) := zd
               obtain ⟨ad326, e326, hx326_0⟩ := Kd.at_int (kB HO_3.out).2.2 (rd t322 x21_2) p326 q326
               cases e326
               replace p326 := eq_true p326
               replace q326 := eq_true q326
               refine start_ (n := 9) (S := fun w' => w'.cell? (ad326.add ((rd t322 x21_2)).toNat) = some (.int .i64 (rd x3_2 (rd t322 x21_2)))) (ds := [8]) #[false, false, false, false, false, false, false, false, false] (by kernel_rfl) rfl rfl (hx326_0) (fun hHeld => ?_); refine with_tabW impl_converse.tab8 impl_converse.bits8 (fun HT_ HW_ => ?_)
               generalize wr.drew = w19 at HO_3 HO_19 HB hx326_0 hHeld ⊢
               refine zp 0 (some 25) #[true, false, false, false, false, false, false, false, false] HT_.out ?_
               refine zp 1 (some 26) #[true, true, false, false, false, false, false, false, false] HT_.out ?_
               refine zp 2 (some 27) #[true, true, true, false, false, false, false, false, false] HT_.out ?_
               refine zp 4 (some 29) #[true, true, true, false, true, false, false, false, false] HT_.out ?_
               refine za 3 (some 28) #[true, true, true, true, true, false, false, false, false] HT_.out HW_.out hHeld ?_
               refine one_ (i := 5) (N := some 30) #[true, true, true, true, true, true, false, false, false] rfl rfl (one_of HT_.out (by kernel_rfl)) (by decide) (fun K hK => ?_)
               refine goes_ Tryd.func105 (by kernel_rfl) rfl #[.int .i64 x13_1] (by rfl) rfl rfl zg ?_
               with_reducible refine (impl_one.calls x13_1 t327 _ A17.out).mono ?_
               rintro e w' ⟨rfl, ⟨nd, rfl⟩⟩
               refine ⟨_, rfl, ?_⟩
               have p18 : 0 ≤ ((rd t322 x21_2) : Int) := zd
               have q18 : ((rd t322 x21_2) : Int) < ((x3_2.length : Int) : Int) := zd
               obtain ⟨go18, co18, eo18, gb18, gl18, cl18, HG18⟩ := Kd.R_form HO_3.out (by omega)
               (first | cases eo18 | (injection eo18 with ea_ en_ ec_; (first | subst ea_ | (injection ea_ with ea_; subst ea_)); subst ec_; clear en_))
               have GB18 := zA gb18
               have GG18 := zA HG18
               clear gb18 gl18 HG18
               (first | simp only [add_plain] at hx326_0 | skip)
               obtain ⟨hx18_0, hf18_0⟩ := Kd.R_celln 0 HO_3.out ((rd t322 x21_2) : Int) p18 q18
               replace p18 := eq_true p18
               replace q18 := eq_true q18
               have HP21 := Kd.R_putn HO_3.out ((rd t322 x21_2) : Int) (Go.bits .or .i64 (rd x3_2 (rd t322 x21_2)) t327)
               rw [← Ny328.out] at HP21
               have HQ21 := zA HP21
               clear HP21
               refine hK.out _ _ (hHeld) (fun hHeld => ?_)
               clear hK K
               refine norm_ (a' := ?_) ?_ ?_
               rotate_left
               ·show Act.put _ (some 30) _ = _
                simp only [Act.put, zL, zM, zN, i64_w, i32_w]
                rfl
               refine zp 6 (some 31) #[true, true, true, true, true, true, true, false, false] HT_.out ?_
               refine zp 7 (some 32) #[true, true, true, true, true, true, true, true, false] HT_.out ?_
               refine last_ (i := 8) (N := none) #[true, true, true, true, true, true, true, true, true] rfl rfl (one_of HT_.out (by kernel_rfl)) (by decide) (fun K hK => ?_)
               refine skip_ (w1 := ?_) (by rfl) rfl ?_ ?_
               rotate_left
               ·go_simp
                rfl
               refine hK.out _ _ ?_
               clear hK K
               refine done_ (done_of HT_.out (by kernel_rfl)) ?_
               try go_wp2
               go_roundg k2
               case measure => have := HK1.out; have := HK2.out; omega
               case rel => exact ⟨(y328), (wrap64 (x21_2 + 1)), zs, H', ⟨by have := HK1.out; have := HK2.out; omega⟩, ⟨zP HQ21.out⟩, ⟨by (with_reducible repeat (first | apply zF | apply zG | apply zH)); exact kA (kY (p := ⟨go18, ((rd t322 x21_2) : Int).toNat, none⟩) (kA HO_19.out (fun k_ hk => (⟨hk, fun e_ => hk (by rw [e_]; rfl)⟩ : _ ∧ k_ ≠ go18))) (fun _ hk => hk.2) (.int .i64 (Go.bits .or .i64 (rd x3_2 (rd t322 x21_2)) t327))) (fun _ hk => hk.1)⟩, ⟨zT HB.out GB18.out⟩⟩
              rw [if_neg c16] at H
              exact absurd H (by simp)
             rw [if_neg c15] at H
             exact absurd H (by simp)
            rw [if_neg c14] at H
            exact absurd H (by simp)
           rw [if_neg c13] at H
           exact absurd H (by simp)
          rw [if_neg c12] at H
          have c12b0 : decide (x21_2 < (t322.length : Int)) = false := decide_eq_false c12
          clear c12
          have H' := zA H
          clear H
          go_wp2
          go_roundg k2
          case measure => have := HK1.out; have := HK2.out; omega
          case rel => exact ⟨(x3_2), (wrap64 (x13_1 + 1)), zs, H', ⟨by have := HK1.out; have := HK2.out; omega⟩, ⟨zPM HO_3.out (fun _ hk => trivial)⟩, ⟨zQ HB.out⟩⟩
       rw [if_neg c8] at H
       exact absurd H (by simp)
      rw [if_neg c7] at H
      exact absurd H (by simp)
     rw [if_neg c6] at H
     have c6b0 : decide (x13_1 < (l0.length : Int)) = false := decide_eq_false c6
     clear c6
     obtain rfl := Option.some.inj H
     go_wp2
     go_ret
     exact ⟨_, zr, zP HO_3.out, zQ HB.out⟩
  rw [if_neg c3] at H
  exact absurd H (by simp)
 rw [if_neg c2] at H
 exact absurd H (by simp)
def impl_has.f (a0 : Int) (a1 : Int) : Option (Bool) := if 0 ≤ a1 then (some ((Go.bits .and .i64 (shr .i64 a0 a1) 1) == 1)) else (none)
set_option maxHeartbeats 8000000 in
set_option maxRecDepth 100000 in
theorem impl_has.calls (a0 : Int) (a1 : Int) (r : Bool) (w : World) (h : impl_has.f a0 a1 = some r) :
  Calls Tryd.prog 104 #[.int .i64 a0, .int .i64 a1] w fun e w' => e = .returned (.bool r) ∧ Drawn0 w w' := by
 have H := h
 unfold impl_has.f at H
 clear h
 by_cases c3 : 0 ≤ a1
 ·rw [if_pos c3] at H
  have c3b0 := eq_true c3
  have c3b1 : decide (0 ≤ a1) = true := decide_eq_true c3
  clear c3
  obtain ⟨ji4, hji4⟩ : ∃ j_ : Int, (shr .i64 a0 a1) = j_ := ⟨_, rfl⟩
  replace H : (some ((Go.bits .and .i64 (ji4) 1) == 1)) = some r := by first | (rw [hji4] at H; exact H) | (simp only [hji4] at H ⊢; exact H)
  have hji4_ : (a0 / 2 ^ min a1.toNat 64) = ji4 := hji4
  have hji4z : a1 ≤ 64 → (a0 / 2 ^ a1.toNat) = ji4 := shr_small hji4
  obtain rfl := Option.some.inj H
  go_enter Tryd.func104, Tryd.ntmps104
  go_wp2
  go_ret
  exact ⟨by first | rfl | (simp; done) | (simp only [← hji4] <;> (first | rfl | simp)) | (simp [*]; done), by repeat (first | exact Drawn0.refl _ | apply Drawn0.step)⟩
 rw [if_neg c3] at H
 exact absurd H (by simp)
def impl_inRange.f (a0 : Int) (a1 : Int) (a2 : Int) : Option (Bool) := if a1 ≤ a0 then (some (decide (a0 ≤ a2))) else (some false)
set_option maxHeartbeats 8000000 in
set_option maxRecDepth 100000 in
theorem impl_inRange.calls (a0 : Int) (a1 : Int) (a2 : Int) (r : Bool) (w : World) (h : impl_inRange.f a0 a1 a2 = some r) :
  Calls Tryd.prog 111 #[.int .i64 a0, .int .i64 a1, .int .i64 a2] w fun e w' => e = .returned (.bool r) ∧ Drawn0 w w' := by
 have H := h
 unfold impl_inRange.f at H
 clear h
 by_cases c4 : a1 ≤ a0
 ·rw [if_pos c4] at H
  have c4b0 : decide (a1 ≤ a0) = true := decide_eq_true c4
  clear c4
  obtain rfl := Option.some.inj H
  go_enter Tryd.func111, Tryd.ntmps111
  go_wp2
  go_ret
  exact ⟨zs, by repeat (first | exact Drawn0.refl _ | apply Drawn0.step)⟩
 rw [if_neg c4] at H
 have c4b0 : decide (a1 ≤ a0) = false := decide_eq_false c4
 clear c4
 obtain rfl := Option.some.inj H
 go_enter Tryd.func111, Tryd.ntmps111
 go_wp2
 go_ret
 exact ⟨zs, by repeat (first | exact Drawn0.refl _ | apply Drawn0.step)⟩
def impl_allIn.f (l0 : List Int) (a1 a2 : Int) : Option Bool := some (l0.all fun x => decide (a1 ≤ x ∧ x ≤ a2))
theorem allIn_pred (l : List Int) (lo hi : Int) (B : Nat) (w : World) (hB : B + 1 < w.heap.size) (h1 : w.cell? ⟨B, 0, none⟩ = some (.int .i64 lo)) (h2 : w.cell? ⟨B + 1, 0, none⟩ = some (.int .i64 hi)) :
  PredOf 131 #[.pointer (some ⟨B, 0, none⟩), .pointer (some ⟨B + 1, 0, none⟩)] (fun x => !decide (lo ≤ x ∧ x ≤ hi)) w l := fun W x _ hb => by
 have hc1 : W.cell? ⟨B, 0, none⟩ = some (.int .i64 lo) := (hb.cell (p := ⟨B, 0, none⟩) (by simp; omega)).trans h1
 have hc2 : W.cell? ⟨B + 1, 0, none⟩ = some (.int .i64 hi) := (hb.cell (p := ⟨B + 1, 0, none⟩) (by simpa using hB)).trans h2
 clear h1 h2 hb
 show Calls Tryd.prog 131 #[.int .i64 x, .pointer (some ⟨B, 0, none⟩), .pointer (some ⟨B + 1, 0, none⟩)] W _
 by_cases c1 : lo ≤ x <;> by_cases c2 : x ≤ hi
 all_goals
  go_enter Tryd.func131, Tryd.ntmps131
  go_wp2
  go_ret
  exact ⟨by simp [c1, c2], kW _ _⟩
theorem impl_allIn.calls (A0 : Option Addr) (c0 : Nat) (l0 : List Int) (a1 : Int) (a2 : Int) (r : Bool) (w : World) (hr0 : Kd.C (Kd.int .i64) w A0 l0.length l0) (hc0 : l0.length ≤ c0) (h : impl_allIn.f l0 a1 a2 = some r) :
  Calls Tryd.prog 126 #[.slice A0 l0.length c0, .int .i64 a1, .int .i64 a2] w fun e w' => e = .returned (.bool r) ∧ Below w.heap.size w w' := by
 have hW : Below w.heap.size w ((w.alloc (.cells #[.int .i64 a1] 2)).alloc (.cells #[.int .i64 a2] 2)) := zB (zB (kW _ w) _) _
 have eg : ∀ args w, (callFunc 131 args).run Tryd.prog w = .ok (.enter 131 args) w := enters_fn Tryd.func131 (by kernel_rfl) rfl
 have hcon := containsFunc_any A0 c0 l0 131 #[.pointer (some ⟨w.heap.size, 0, none⟩), .pointer (some ⟨w.heap.size + 1, 0, none⟩)] (fun x => !decide (a1 ≤ x ∧ x ≤ a2)) _ eg
  (allIn_pred l0 a1 a2 w.heap.size ((w.alloc (.cells #[.int .i64 a1] 2)).alloc (.cells #[.int .i64 a2] 2)) (by simp) (by simp) (by simp)) (kO hr0 hW)
 have hr : (!(l0.any fun x => !decide (a1 ≤ x ∧ x ≤ a2))) = r := by
  have := Option.some.inj h
  rw [← this, List.all_eq_not_any_not]
 clear h hr0 eg
 generalize (l0.any fun x => !decide (a1 ≤ x ∧ x ≤ a2)) = b at hcon hr
 subst hr
 replace hW := zA hW
 go_enter Tryd.func126, Tryd.ntmps126
 go_wp2_with fail
 refine hcon.mono ?_
 rintro e w' ⟨rfl, hb⟩
 replace hb := zA hb
 clear hcon
 go_wp2
 go_ret
 exact ⟨rfl, kQ hW.out hb.out⟩
def impl_IsRelation.f (l0 : List Int) : Option (Bool) := if (l0.length : Int) ≤ 24 then ((impl_length_int64.f l0).bind fun t329 => ((impl_one.f t329).bind fun t330 => ((impl_allIn.f l0 0 (wrap64 (t330 - 1))).bind fun t331 => (some t331)))) else (some false)
set_option maxHeartbeats 8000000 in
set_option maxRecDepth 100000 in
theorem impl_IsRelation.calls (A0 : Option Addr) (c0 : Nat) (l0 : List Int) (r : Bool) (w : World) (hr0 : Kd.C (Kd.int .i64) w A0 l0.length l0) (hc0 : l0.length ≤ c0) (h : impl_IsRelation.f l0 = some r) :
  Calls Tryd.prog 124 #[.slice A0 l0.length c0] w fun e w' => e = .returned (.bool r) ∧ Below w.heap.size w w' := by
 have HR0 := zA hr0
 have HC0 := zA hc0
 clear hr0 hc0
 have HB := zA (kW w.heap.size w)
 have H := h
 unfold impl_IsRelation.f at H
 clear h
 by_cases c2 : (l0.length : Int) ≤ 24
 ·rw [if_pos c2] at H
  have c2b0 : decide ((l0.length : Int) ≤ 24) = true := decide_eq_true c2
  have c2b1 : decide (l0.length ≤ 24) = true := decide_eq_true (by omega)
  clear c2
  obtain ⟨t329, A3, H⟩ := zb H
  try dsimp only at H
  obtain ⟨t330, A4, H⟩ := zb H
  try dsimp only at H
  obtain ⟨t331, A5, H⟩ := zb H
  try dsimp only at H
  obtain rfl := Option.some.inj H
  go_enter Tryd.func124, Tryd.ntmps124
  go_wp2_with (first | (go_at_call 82; (with_reducible refine (impl_length_int64.calls _ _ l0 t329 _ ?side1 ?side2 A3.out).mono ?_); (case side1 => exact zS HR0.out); (case side2 => exact HC0.out); rintro e w' ⟨rfl, ⟨nd, rfl⟩⟩) | (go_at_call 105; (with_reducible refine (impl_one.calls t329 t330 _ A4.out).mono ?_); rintro e w' ⟨rfl, ⟨nd, rfl⟩⟩) | (go_at_call 126; (with_reducible refine (impl_allIn.calls _ _ l0 0 (wrap64 (t330 - 1)) t331 _ ?side1 ?side2 A5.out).mono ?_); (case side1 => exact zS HR0.out); (case side2 => exact HC0.out); rintro e w6 ⟨rfl, hb⟩; replace HB := zA (kQ (zQ HB.out) hb); (try clear hb)))
  go_ret
  exact ⟨zr, zQ HB.out⟩
 rw [if_neg c2] at H
 have c2b0 : decide ((l0.length : Int) ≤ 24) = false := decide_eq_false c2
 have c2b1 : decide (l0.length ≤ 24) = false := decide_eq_false (by omega)
 clear c2
 obtain rfl := Option.some.inj H
 go_enter Tryd.func124, Tryd.ntmps124
 go_wp2
 go_ret
 exact ⟨zr, zQ HB.out⟩
end Go.Proofs.YtkiacoilecdepaaDoor.PAll
