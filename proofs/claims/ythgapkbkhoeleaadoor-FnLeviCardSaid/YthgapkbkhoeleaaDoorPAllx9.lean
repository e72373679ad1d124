-- Printed by a program of the session (wip/tools/pgen.py) out of the translation. Not trusted: Lean checks it.
import Derived.Test.YthgapkbkhoeleaaDoorPAllx0
import Derived.Test.YthgapkbkhoeleaaDoorPAllx1
import Derived.Test.YthgapkbkhoeleaaDoorPAllx8
namespace Go.Proofs.YthgapkbkhoeleaaDoor.PAll
open Go.RowKit Go.Proofs.YthgapkbkhoeleaaDoor.T Go.Proofs.YthgapkbkhoeleaaDoorW.PrintWords Go.Proofs.YthgapkbkhoeleaaDoorW.PrintLast Go.Proofs.YthgapkbkhoeleaaDoorW.PrintMore
attribute [local go_sem] max2_int min2_int max_two min_two max_three min_three max_four min_four   -- for this text's walks alone
set_option linter.unusedVariables false
set_option linter.unusedSimpArgs false

/-! ### spec_l02Spoil: function 131 -/
def spec_l02Spoil.f (k : Nat) (s0_0 : List Int) (s0_1 : Int) (s0_2 : Int) (a1 : Int) : Option (Int × List Int × Int × Int) := (spec_l02Draw.f k s0_0 s0_1 s0_2 a1).bind fun bt440 => ((spec_l01Next.f s0_0 bt440.2.2.1 bt440.2.2.2 14).bind fun bt447 => (if bt447.1 > 0 then (some (bt440.1, bt440.2.1, bt447.2.1, bt447.2.2)) else ((spec_l01Next.f s0_0 bt447.2.1 bt447.2.2 4).bind fun bt450 => (if bt450.1 = 0 then ((spec_l01Pick.f s0_0 bt450.2.1 bt450.2.2 (([(-1), 9, wrap64 (bt440.1 + 1)] : List Int))).bind fun bt456 => (some (bt456.1, bt440.2.1, bt456.2.1, bt456.2.2))) else (if bt450.1 = 1 then ((spec_l01Pick.f s0_0 bt450.2.1 bt450.2.2 (([0, 1, 255] : List Int))).bind fun bt462 => (if bt440.2.1.length < 17592186044416 then (some (bt440.1, (bt440.2.1 ++ [bt462.1]), bt462.2.1, bt462.2.2)) else (none))) else (if bt440.1 > 0 then ((spec_l01Next.f s0_0 bt450.2.1 bt450.2.2 bt440.1).bind fun bt468 => (if 0 ≤ bt468.1 then (if bt468.1 < (bt440.2.1.length : Int) then ((spec_l01One.f bt468.1).bind fun t472 => ((spec_l01One.f bt440.1).bind fun t474 => ((spec_l01One.f bt440.1).bind fun t475 => ((spec_l01Next.f s0_0 bt468.2.1 bt468.2.2 t475).bind fun bt476 => ((spec_l01Pick.f s0_0 bt476.2.1 bt476.2.2 (([wrap64 ((rd bt440.2.1 bt468.1) - t472), Go.bits .or .i64 (rd bt440.2.1 bt468.1) t474, bt476.1, (-1)] : List Int))).bind fun bt482 => (some (bt440.1, (bt440.2.1.set (bt468.1 : Int).toNat bt482.1), bt482.2.1, bt482.2.2))))))) else (none)) else (none))) else (some (bt440.1, bt440.2.1, bt450.2.1, bt450.2.2))))))))

def spec_l02Spoil.T7 : Bool × List (List Nat × List Nat) := (true, [([], []), ([0], [0]), ([], []), ([], []), ([], []), ([4], [4]), ([], []), ([5, 6], [5, 6]), ([7], [7]), ([], []), ([9], [9]), ([8, 10], [8, 10]), ([], []), ([12], [12]), ([], []), ([13, 14], [13, 14]), ([15], [15]), ([], []), ([17], [17]), ([18, 10], [18]), ([16, 19], [16, 19]), ([], []), ([], []), ([22], [22]), ([23, 19], [23]), ([21, 24, 24], [21, 24]), ([11, 20, 25], [11, 20, 25]), ([3, 26, 25], [3, 26]), ([1, 2, 0, 1, 2, 3, 4, 5, 6, 7, 8, 9, 10, 11, 12, 13, 14, 15, 16, 17, 18, 19, 20, 21, 22, 23, 24, 25, 26, 27], [1, 2]), ([28, 27, 27, 0, 1, 2, 3, 4, 5, 6, 7, 8, 9, 10, 11, 12, 13, 14, 15, 16, 17, 18, 19, 20, 21, 22, 23, 24, 25, 26, 27], [27, 28])])
def spec_l02Spoil.B7 : List Nat := [0, 1, 0, 0, 0, 16, 0, 112, 240, 0, 512, 2032, 0, 4096, 0, 28672, 61440, 0, 131072, 394752, 1046016, 0, 0, 4194304, 13501952, 32376320, 67108848, 134217720, 268435455, 536870911]
theorem spec_l02Spoil.tab7 : rtab .any (opsOf Tryd.f131 7) = spec_l02Spoil.T7 := by kernel_rfl
theorem spec_l02Spoil.bits7 : waitsOk spec_l02Spoil.T7.2 spec_l02Spoil.B7 = true := by kernel_rfl
def spec_l02Spoil.T11 : Bool × List (List Nat × List Nat) := (true, [([], []), ([0], [0]), ([], []), ([], []), ([2, 3], [2, 3]), ([4], [4]), ([1, 5, 4], [1, 5]), ([0, 1, 2, 3, 4, 5, 6], []), ([7, 6, 6, 0, 1, 2, 3, 4, 5, 6], [6, 7])])
def spec_l02Spoil.B11 : List Nat := [0, 1, 0, 0, 12, 28, 63, 127, 255]
theorem spec_l02Spoil.tab11 : rtab .any (opsOf Tryd.f131 11) = spec_l02Spoil.T11 := by kernel_rfl
theorem spec_l02Spoil.bits11 : waitsOk spec_l02Spoil.T11.2 spec_l02Spoil.B11 = true := by kernel_rfl
set_option maxHeartbeats 8000000 in
set_option maxRecDepth 100000 in
theorem spec_l02Spoil.calls (k : Nat) (g : Nat) (s0_0 : List Int) (s0_1 : Int) (s0_2 : Int) (a1 : Int) (r1 : Int) (r2 : List Int) (r3 : Int) (r4 : Int) (w0 w : World) (hI : Z140 w0 w g s0_0 s0_1 s0_2) (hB : Below w0.heap.size w0 w) (h : spec_l02Spoil.f k s0_0 s0_1 s0_2 a1 = some (r1, r2, r3, r4)) :
  Calls Tryd.prog 131 #[.pointer (some ⟨g, 0, none⟩), .int .i64 a1] w fun e w' => ∃ v1_ : Value, e = .returned (.agg #[.int .i64 r1, v1_]) ∧ Kd.R (Kd.int .i64) 2 w' w.heap.size (fun _ => True) v1_ r2 ∧ Z140 w0 w' g s0_0 r3 r4 ∧ Below w0.heap.size w0 w' ∧ KeepBut w w' g none := by
 have hu29 := Tryd.underlying29
 have HI0 := zA hI
 have HK := zA (KeepBut.refl w g none)
 have HL := zA hB.size
 clear hI
 have HW0 := zA hB.size
 have HB := zA hB
 clear hB
 have H := h
 unfold spec_l02Spoil.f at H
 clear h
 obtain ⟨⟨t440, t441, t444, t445⟩, A3, H⟩ := zb H
 try dsimp only at H
 obtain ⟨⟨t447, t448, t449⟩, A4, H⟩ := zb H
 try dsimp only at H
 by_cases c5 : t447 > 0
 ·rw [if_pos c5] at H
  have c5b0 : decide (0 < t447) = true := decide_eq_true c5
  clear c5
  simp only [Option.some.injEq, Prod.mk.injEq] at H
  obtain ⟨rfl, rfl, rfl, rfl⟩ := H
  go_enter Tryd.func131, Tryd.ntmps131
  go_wp2_with (first | (refine zBE 4 #[.int .i64 0, .slice none 0 0] 29 ?_; intro gb439 hg w6 hbox hb; replace HB := zA (kQ (zT HB.out (Z140.ge HI0.out)) hb); have BK439 := zA (hbox); have GW439 := zA (zB6 hg (kX (w := w) (g := g) (row := none) (yA HK.out)) : w.heap.size ≤ gb439); have GE439 := zA ((Nat.le_trans HW0.out (by rw [hg]; exact (kX (w := w) (g := g) (row := none) (yA HK.out)) : w.heap.size ≤ gb439) : w0.heap.size ≤ gb439)); replace HK := zA (kT (yA HK.out) (kU hb g none) (.inl rfl)); have NB0_439 := zA (zB7 hg (Z140.lt (show Z140 w0 _ g s0_0 s0_1 s0_2 from Z140.uA HI0.out)) : g ≠ gb439); have NB439_0 := zA (zB8 hg (Z140.lt (show Z140 w0 _ g s0_0 s0_1 s0_2 from Z140.uA HI0.out)) : gb439 ≠ g); replace HI0 := zA (Z140.below (Z140.uA HI0.out) hb); clear hb hbox hg) | (refine zO (some 9) Tryd.func172 #[.pointer (some ⟨g, 0, none⟩), .int .i64 a1] ?_; (with_reducible refine (spec_l02Draw.calls k g s0_0 s0_1 s0_2 a1 t440 t441 t444 t445 w0 _ ?side1 ?side2 A3.out).mono ?_); (case side1 => exact Z140.uB HI0.out NB0_439.out); (case side2 => exact zV HB.out (Z140.ge HI0.out) GE439.out); rintro e w7 ⟨v442, rfl, ho0, hi, hb, hk⟩; refine ⟨_, rfl, ?_⟩; replace BK439 := zA (zB2 hk BK439.out NB439_0.out); have HO443 := zA (kI ho0 (kX (w := w) (g := g) (row := none) (yB HK.out GW439.out))); replace HK := zA (kT (yB HK.out GW439.out) hk (.inl rfl)); replace HB := zA (hb); replace HI0 := zA (hi); (try clear hb); (try clear hk); (try clear hi); (try clear ho0)) | (refine zBE 5 #[.int .i64 0, .slice none 0 0] 29 ?_; intro gb446 hg w8 hbox hb; replace HO443 := zA (kL (zP HO443.out) hb); replace HB := zA (kQ (zV HB.out (Z140.ge HI0.out) GE439.out) hb); have BK446 := zA (hbox); have GW446 := zA (zB6 hg (kX (w := w) (g := g) (row := none) (yB HK.out GW439.out)) : w.heap.size ≤ gb446); have GE446 := zA ((Nat.le_trans HW0.out (by rw [hg]; exact (kX (w := w) (g := g) (row := none) (yB HK.out GW439.out)) : w.heap.size ≤ gb446) : w0.heap.size ≤ gb446)); replace HK := zA (kT (yB HK.out GW439.out) (kU hb g none) (.inl rfl)); have NB439_446 := zA (zB4 hg BK439.out : gb439 ≠ gb446); have NB446_439 := zA (zB5 hg BK439.out : gb446 ≠ gb439); replace BK439 := zA (zB1 BK439.out hb); have NB0_446 := zA (zB7 hg (Z140.lt (show Z140 w0 _ g s0_0 t444 t445 from Z140.uB HI0.out NB0_439.out)) : g ≠ gb446); have NB446_0 := zA (zB8 hg (Z140.lt (show Z140 w0 _ g s0_0 t444 t445 from Z140.uB HI0.out NB0_439.out)) : gb446 ≠ g); replace HI0 := zA (Z140.below (Z140.uB HI0.out NB0_439.out) hb); clear hb hbox hg; have hnb9 := NB446_439.out; have hnc9 := NB439_446.out; have hnb10 := NB446_0.out; have hnc10 := NB0_446.out; obtain ⟨hcz11_0, hcz11_1, hfz11_0, hfz11_1⟩ := zB3 BK446.out; obtain ⟨Ao12, co12, eo12⟩ := kM HO443.out; subst eo12) | (refine zO (some 11) Tryd.func128 #[.pointer (some ⟨g, 0, none⟩), .int .i64 14] ?_; (with_reducible refine (spec_l01Next.calls g s0_0 t444 t445 14 t447 t448 t449 w0 _ ?side1 ?side2 A4.out).mono ?_); (case side1 => exact Z140.uC HI0.out NB0_439.out NB0_446.out); (case side2 => exact zW HB.out (Z140.ge HI0.out) GE439.out GE446.out); rintro e w13 ⟨rfl, hi, hb, hk⟩; refine ⟨_, rfl, ?_⟩; replace BK439 := zA (KeepBut.blk hk (g' := gb439) (o := .cells #[.int .i64 0, .slice none 0 0] 29 (0, 0)) (zBG BK439.out NB439_446.out NB439_446.out) NB439_0.out (by simp)); replace HO443 := zA (kA (Kd.R_keep (Z140.apart (show Z140 w0 _ g s0_0 t444 t445 from Z140.uC HI0.out NB0_439.out NB0_446.out) (zP (zFG HO443.out BK446.out (.int .i64 t440) (.slice Ao12 t441.length co12))) (by decide)) hk (fun _ h => h.2)) (fun _ h => h.1)); replace BK446 := zA (KeepBut.blk hk (g' := gb446) (o := .cells #[.int .i64 t440, .slice Ao12 t441.length co12] 29 (0, 0)) (zRP BK446.out) NB446_0.out (by simp)); replace HK := zA (kT (yC HK.out GW439.out GW446.out) hk (.inl rfl)); replace HB := zA (hb); replace HI0 := zA (hi); (try clear hb); (try clear hk); (try clear hi); obtain ⟨hcz14_0, hcz14_1, hfz14_0, hfz14_1⟩ := zB3 BK446.out; have hnb15 := NB439_0.out; have hnc15 := NB0_439.out; obtain ⟨hcz16_0, hcz16_1, hfz16_0, hfz16_1⟩ := zB3 BK439.out))
  refine bodyPost_ret (results_cell_row rfl _ _ gb439 29 #[.int .i64 t440, .slice Ao12 t441.length co12] (0, 0) _ rfl (zRP BK439.out) Tryd.underlying29 rfl (by kernel_rfl)) rfl ?_
  exact ⟨_, zr, by (with_reducible repeat (first | apply zF | apply zG | apply zH)); exact kA (kY (p := ⟨gb439, 1, none⟩) (kY (p := ⟨gb439, 0, none⟩) (kD HO443.out BK439.out (by decide)) (fun _ hk => hk.2) (.int .i64 t440)) (fun _ hk => hk.2) (.slice Ao12 t441.length co12)) (fun _ hk => trivial), by repeat (first | (with_reducible first | exact HI0.out | apply Z140.alloc | apply Z140.drewN | apply Z140.drew | apply Z140.set_1 | apply Z140.set_2 | refine Z140.far ?_ NB0_439.out _ | refine Z140.far ?_ NB0_446.out _) | exact HI0.out), zW HB.out (Z140.ge HI0.out) GE439.out GE446.out, by repeat (first | (with_reducible first | exact HK.out | apply KeepBut.set_ | apply keep_drewN | apply keep_drew | apply keep_alloc | refine keep_far ?_ GW439.out _ | refine keep_far ?_ GW446.out _) | exact HK.out)⟩
 rw [if_neg c5] at H
 have c5b0 : decide (0 < t447) = false := decide_eq_false c5
 clear c5
 obtain ⟨⟨t450, t451, t452⟩, A17, H⟩ := zb H
 try dsimp only at H
 by_cases c18 : t450 = 0
 ·rw [if_pos c18] at H
  obtain ⟨c18b0, c18b1⟩ := zT1 c18
  clear c18
  obtain ⟨y453, hy453⟩ : ∃ y_ : List Int, y_ = (([(-1), 9, wrap64 (t440 + 1)] : List Int)) := ⟨_, rfl⟩
  replace H : ((spec_l01Pick.f s0_0 t451 t452 y453).bind fun bt456 => (some (bt456.1, t441, bt456.2.1, bt456.2.2))) = some (r1, r2, r3, r4) := zy hy453 H
  have Ny453 := zA hy453
  clear hy453
  obtain ⟨⟨t456, t457, t458⟩, A19, H⟩ := zb H
  try dsimp only at H
  simp only [Option.some.injEq, Prod.mk.injEq] at H
  obtain ⟨rfl, rfl, rfl, rfl⟩ := H
  go_enter Tryd.func131, Tryd.ntmps131
  go_wp2_with (first | (refine zBE 4 #[.int .i64 0, .slice none 0 0] 29 ?_; intro gb439 hg w20 hbox hb; replace HB := zA (kQ (zT HB.out (Z140.ge HI0.out)) hb); have BK439 := zA (hbox); have GW439 := zA (zB6 hg (kX (w := w) (g := g) (row := none) (yA HK.out)) : w.heap.size ≤ gb439); have GE439 := zA ((Nat.le_trans HW0.out (by rw [hg]; exact (kX (w := w) (g := g) (row := none) (yA HK.out)) : w.heap.size ≤ gb439) : w0.heap.size ≤ gb439)); replace HK := zA (kT (yA HK.out) (kU hb g none) (.inl rfl)); have NB0_439 := zA (zB7 hg (Z140.lt (show Z140 w0 _ g s0_0 s0_1 s0_2 from Z140.uA HI0.out)) : g ≠ gb439); have NB439_0 := zA (zB8 hg (Z140.lt (show Z140 w0 _ g s0_0 s0_1 s0_2 from Z140.uA HI0.out)) : gb439 ≠ g); replace HI0 := zA (Z140.below (Z140.uA HI0.out) hb); clear hb hbox hg) | (refine zO (some 9) Tryd.func172 #[.pointer (some ⟨g, 0, none⟩), .int .i64 a1] ?_; (with_reducible refine (spec_l02Draw.calls k g s0_0 s0_1 s0_2 a1 t440 t441 t444 t445 w0 _ ?side1 ?side2 A3.out).mono ?_); (case side1 => exact Z140.uB HI0.out NB0_439.out); (case side2 => exact zV HB.out (Z140.ge HI0.out) GE439.out); rintro e w21 ⟨v442, rfl, ho0, hi, hb, hk⟩; refine ⟨_, rfl, ?_⟩; replace BK439 := zA (zB2 hk BK439.out NB439_0.out); have HO443 := zA (kI ho0 (kX (w := w) (g := g) (row := none) (yB HK.out GW439.out))); replace HK := zA (kT (yB HK.out GW439.out) hk (.inl rfl)); replace HB := zA (hb); replace HI0 := zA (hi); (try clear hb); (try clear hk); (try clear hi); (try clear ho0)) | (refine zBE 5 #[.int .i64 0, .slice none 0 0] 29 ?_; intro gb446 hg w22 hbox hb; replace HO443 := zA (kL (zP HO443.out) hb); replace HB := zA (kQ (zV HB.out (Z140.ge HI0.out) GE439.out) hb); have BK446 := zA (hbox); have GW446 := zA (zB6 hg (kX (w := w) (g := g) (row := none) (yB HK.out GW439.out)) : w.heap.size ≤ gb446); have GE446 := zA ((Nat.le_trans HW0.out (by rw [hg]; exact (kX (w := w) (g := g) (row := none) (yB HK.out GW439.out)) : w.heap.size ≤ gb446) : w0.heap.size ≤ gb446)); replace HK := zA (kT (yB HK.out GW439.out) (kU hb g none) (.inl rfl)); have NB439_446 := zA (zB4 hg BK439.out : gb439 ≠ gb446); have NB446_439 := zA (zB5 hg BK439.out : gb446 ≠ gb439); replace BK439 := zA (zB1 BK439.out hb); have NB0_446 := zA (zB7 hg (Z140.lt (show Z140 w0 _ g s0_0 t444 t445 from Z140.uB HI0.out NB0_439.out)) : g ≠ gb446); have NB446_0 := zA (zB8 hg (Z140.lt (show Z140 w0 _ g s0_0 t444 t445 from Z140.uB HI0.out NB0_439.out)) : gb446 ≠ g); replace HI0 := zA (Z140.below (Z140.uB HI0.out NB0_439.out) hb); clear hb hbox hg; have hnb23 := NB446_439.out; have hnc23 := NB439_446.out; have hnb24 := NB446_0.out; have hnc24 := NB0_446.out; obtain ⟨hcz25_0, hcz25_1, hfz25_0, hfz25_1⟩ := zB3 BK446.out; obtain ⟨Ao26, co26, eo26⟩ := kM HO443.out; subst eo26) | (refine zO (some 11) Tryd.func128 #[.pointer (some ⟨g, 0, none⟩), .int .i64 14] ?_; (with_reducible refine (spec_l01Next.calls g s0_0 t444 t445 14 t447 t448 t449 w0 _ ?side1 ?side2 A4.out).mono ?_); (case side1 => exact Z140.uC HI0.out NB0_439.out NB0_446.out); (case side2 => exact zW HB.out (Z140.ge HI0.out) GE439.out GE446.out); rintro e w27 ⟨rfl, hi, hb, hk⟩; refine ⟨_, rfl, ?_⟩; replace BK439 := zA (KeepBut.blk hk (g' := gb439) (o := .cells #[.int .i64 0, .slice none 0 0] 29 (0, 0)) (zBG BK439.out NB439_446.out NB439_446.out) NB439_0.out (by simp)); replace HO443 := zA (kA (Kd.R_keep (Z140.apart (show Z140 w0 _ g s0_0 t444 t445 from Z140.uC HI0.out NB0_439.out NB0_446.out) (zP (zFG HO443.out BK446.out (.int .i64 t440) (.slice Ao26 t441.length co26))) (by decide)) hk (fun _ h => h.2)) (fun _ h => h.1)); replace BK446 := zA (KeepBut.blk hk (g' := gb446) (o := .cells #[.int .i64 t440, .slice Ao26 t441.length co26] 29 (0, 0)) (zRP BK446.out) NB446_0.out (by simp)); replace HK := zA (kT (yC HK.out GW439.out GW446.out) hk (.inl rfl)); replace HB := zA (hb); replace HI0 := zA (hi); (try clear hb); (try clear hk); (try clear hi)) | (refine zO (some 15) Tryd.func128 #[.pointer (some ⟨g, 0, none⟩), .int .i64 4] ?_; (with_reducible refine (spec_l01Next.calls g s0_0 t448 t449 4 t450 t451 t452 w0 _ ?side1 ?side2 A17.out).mono ?_); (case side1 => exact Z140.uC HI0.out NB0_439.out NB0_446.out); (case side2 => exact zW HB.out (Z140.ge HI0.out) GE439.out GE446.out); rintro e w28 ⟨rfl, hi, hb, hk⟩; refine ⟨_, rfl, ?_⟩; replace BK439 := zA (zB2 hk BK439.out NB439_0.out); replace HO443 := zA (zB9 (Z140.apart (show Z140 w0 _ g s0_0 t448 t449 from Z140.uC HI0.out NB0_439.out NB0_446.out) (zP HO443.out) (by decide)) hk); replace BK446 := zA (zB2 hk BK446.out NB446_0.out); replace HK := zA (kT (yC HK.out GW439.out GW446.out) hk (.inl rfl)); replace HB := zA (hb); replace HI0 := zA (hi); (try clear hb); (try clear hk); (try clear hi); obtain ⟨hcz29_0, hcz29_1, hfz29_0, hfz29_1⟩ := zB3 BK446.out) | ((with_reducible refine kS (N := 58) rfl ?_); refine Kd.R_lit (Kd.int .i64) _ 2 ?hg (N := 58) ?hd (xs := ([(-1), 9, wrap64 (t440 + 1)] : List Int)) (inner := [.int .i64 (-1), .int .i64 9, .int .i64 (wrap64 (t440 + 1))]) (ok := fun _ => True) (okp := fun _ => True) ?hr ?hp (fun _ hk => hk) trivial (kW _ _) (Nat.le_refl _) (by simp) ?_; (case hd => rfl); (case hg => rfl); (case hr => first | (go_simp; done) | (go_simp; rfl)); (case hp => exact (Reps.one (show Kd.M (Kd.int .i64) _ _ _ (-1) [.int .i64 (-1)] from rfl) (Reps.one (show Kd.M (Kd.int .i64) _ _ _ 9 [.int .i64 9] from rfl) (Reps.one (show Kd.M (Kd.int .i64) _ _ _ (wrap64 (t440 + 1)) [.int .i64 (wrap64 (t440 + 1))] from rfl) (Reps.none _ _))))); intro v454 w30 ho31 hb hg_ hnew_; clear hg_ hnew_; (first | rw [← Ny453.out] at ho31 | (simp only [Int.reduceToNat] at ho31; rw [← Ny453.out] at ho31)); have HO455 := zA (kI (kF ho31 (kH (zP HO443.out))) (kX (w := w) (g := g) (row := none) (yC HK.out GW439.out GW446.out))); replace HO443 := zA (kE (zP HO443.out) (kC ho31) hb); replace BK439 := zA (zB1 BK439.out hb); replace BK446 := zA (zB1 BK446.out hb); replace HK := zA (kT (yC HK.out GW439.out GW446.out) (kU hb g none) (.inl rfl)); replace HB := zA (kQ (zW HB.out (Z140.ge HI0.out) GE439.out GE446.out) hb); replace HI0 := zA (Z140.below (Z140.uC HI0.out NB0_439.out NB0_446.out) hb); clear hb ho31; obtain ⟨Ao32, co32, eo32⟩ := kM HO455.out; subst eo32) | (refine zO (some 59) Tryd.func181 #[.pointer (some ⟨g, 0, none⟩), .slice Ao32 y453.length co32] ?_; (with_reducible refine (spec_l01Pick.calls g s0_0 t451 t452 _ _ y453 t456 t457 t458 w0 _ ?side1 ?side2 ?side3 ?side4 ?side5 A19.out).mono ?_); (case side1 => exact Z140.uC HI0.out NB0_439.out NB0_446.out); (case side2 => exact zW HB.out (Z140.ge HI0.out) GE439.out GE446.out); (case side3 => exact zS (kB HO455.out).2.2); (case side4 => exact (kB HO455.out).2.1); (case side5 => exact jJ (Z140.own_ne HI0.out HO455.out (by decide))); rintro e w33 ⟨rfl, hi, hb, hk⟩; refine ⟨_, rfl, ?_⟩; replace BK439 := zA (zB2 hk BK439.out NB439_0.out); replace HO443 := zA (zB9 (Z140.apart (show Z140 w0 _ g s0_0 t451 t452 from Z140.uC HI0.out NB0_439.out NB0_446.out) (zP HO443.out) (by decide)) hk); replace BK446 := zA (zB2 hk BK446.out NB446_0.out); replace HO455 := zA (zB9 (Z140.apart (show Z140 w0 _ g s0_0 t451 t452 from Z140.uC HI0.out NB0_439.out NB0_446.out) (zP HO455.out) (by decide)) hk); replace HK := zA (kT (yC HK.out GW439.out GW446.out) hk (.inl rfl)); replace HB := zA (hb); replace HI0 := zA (hi); (try clear hb); (try clear hk); (try clear hi); obtain ⟨hcz34_0, hcz34_1, hfz34_0, hfz34_1⟩ := zB3 BK446.out; have hnb35 := NB439_0.out; have hnc35 := NB0_439.out; obtain ⟨hcz36_0, hcz36_1, hfz36_0, hfz36_1⟩ := zB3 BK439.out))
  refine bodyPost_ret (results_cell_row rfl _ _ gb439 29 #[.int .i64 t456, .slice Ao26 t441.length co26] (0, 0) _ rfl (by (with_reducible repeat (first | refine zJ ?_ _ | refine zK ?_ | refine zI ?_ _)); refine blk_put (cs := #[.int .i64 t456, .slice none 0 0]) ?_ 1 _ rfl; (with_reducible repeat (first | refine zJ ?_ _ | refine zK ?_ | refine zI ?_ _)); refine blk_put (cs := #[.int .i64 0, .slice none 0 0]) ?_ 0 _ rfl; (with_reducible repeat (first | refine zJ ?_ _ | refine zK ?_ | refine zI ?_ _)); refine blk_far ?_ NB439_446.out _; (with_reducible repeat (first | refine zJ ?_ _ | refine zK ?_ | refine zI ?_ _)); exact BK439.out) Tryd.underlying29 rfl (by kernel_rfl)) rfl ?_
  exact ⟨_, zr, by (with_reducible repeat (first | apply zF | apply zG | apply zH)); exact kA (kY (p := ⟨gb439, 1, none⟩) (kY (p := ⟨gb439, 0, none⟩) (kY (p := ⟨gb446, 0, none⟩) (kD (kD HO443.out BK446.out (by decide)) BK439.out (by decide)) (fun _ hk => hk.1.2) (.int .i64 t456)) (fun _ hk => hk.2) (.int .i64 t456)) (fun _ hk => hk.2) (.slice Ao26 t441.length co26)) (fun _ hk => trivial), by repeat (first | (with_reducible first | exact HI0.out | apply Z140.alloc | apply Z140.drewN | apply Z140.drew | apply Z140.set_1 | apply Z140.set_2 | refine Z140.far ?_ NB0_439.out _ | refine Z140.far ?_ NB0_446.out _) | exact HI0.out), zW HB.out (Z140.ge HI0.out) GE439.out GE446.out, by repeat (first | (with_reducible first | exact HK.out | apply KeepBut.set_ | apply keep_drewN | apply keep_drew | apply keep_alloc | refine keep_far ?_ GW439.out _ | refine keep_far ?_ GW446.out _) | exact HK.out)⟩
 rw [if_neg c18] at H
 obtain ⟨c18b0, c18b1⟩ := zT2 c18
 by_cases c37 : t450 = 1
 ·rw [if_pos c37] at H
  obtain ⟨c37b0, c37b1⟩ := zT1 c37
  clear c37
  obtain ⟨y459, hy459⟩ : ∃ y_ : List Int, y_ = (([0, 1, 255] : List Int)) := ⟨_, rfl⟩
  replace H : ((spec_l01Pick.f s0_0 t451 t452 y459).bind fun bt462 => (if t441.length < 17592186044416 then (some (t440, (t441 ++ [bt462.1]), bt462.2.1, bt462.2.2)) else (none))) = some (r1, r2, r3, r4) := zy hy459 H
  have Ny459 := zA hy459
  clear hy459
  obtain ⟨⟨t462, t463, t464⟩, A38, H⟩ := zb H
  try dsimp only at H
  by_cases c39 : t441.length < 17592186044416
  ·rw [if_pos c39] at H
   have LMc39 := zA c39
   clear c39
   obtain ⟨y465, hy465⟩ : ∃ y_ : List Int, y_ = (t441 ++ [t462]) := ⟨_, rfl⟩
   replace H : (some (t440, y465, t463, t464)) = some (r1, r2, r3, r4) := zy hy465 H
   have Ny465 := zA hy465
   clear hy465
   simp only [Option.some.injEq, Prod.mk.injEq] at H
   obtain ⟨rfl, rfl, rfl, rfl⟩ := H
   go_enter Tryd.func131, Tryd.ntmps131
   try go_wp2_with (first | (refine zBE 4 #[.int .i64 0, .slice none 0 0] 29 ?_; intro gb439 hg w40 hbox hb; replace HB := zA (kQ (zT HB.out (Z140.ge HI0.out)) hb); have BK439 := zA (hbox); have GW439 := zA (zB6 hg (kX (w := w) (g := g) (row := none) (yA HK.out)) : w.heap.size ≤ gb439); have GE439 := zA ((Nat.le_trans HW0.out (by rw [hg]; exact (kX (w := w) (g := g) (row := none) (yA HK.out)) : w.heap.size ≤ gb439) : w0.heap.size ≤ gb439)); replace HK := zA (kT (yA HK.out) (kU hb g none) (.inl rfl)); have NB0_439 := zA (zB7 hg (Z140.lt (show Z140 w0 _ g s0_0 s0_1 s0_2 from Z140.uA HI0.out)) : g ≠ gb439); have NB439_0 := zA (zB8 hg (Z140.lt (show Z140 w0 _ g s0_0 s0_1 s0_2 from Z140.uA HI0.out)) : gb439 ≠ g); replace HI0 := zA (Z140.below (Z140.uA HI0.out) hb); clear hb hbox hg) | (refine zO (some 9) Tryd.func172 #[.pointer (some ⟨g, 0, none⟩), .int .i64 a1] ?_; (with_reducible refine (spec_l02Draw.calls k g s0_0 s0_1 s0_2 a1 t440 t441 t444 t445 w0 _ ?side1 ?side2 A3.out).mono ?_); (case side1 => exact Z140.uB HI0.out NB0_439.out); (case side2 => exact zV HB.out (Z140.ge HI0.out) GE439.out); rintro e w41 ⟨v442, rfl, ho0, hi, hb, hk⟩; refine ⟨_, rfl, ?_⟩; replace BK439 := zA (zB2 hk BK439.out NB439_0.out); have HO443 := zA (kI ho0 (kX (w := w) (g := g) (row := none) (yB HK.out GW439.out))); replace HK := zA (kT (yB HK.out GW439.out) hk (.inl rfl)); replace HB := zA (hb); replace HI0 := zA (hi); (try clear hb); (try clear hk); (try clear hi); (try clear ho0)) | (refine zBE 5 #[.int .i64 0, .slice none 0 0] 29 ?_; intro gb446 hg w42 hbox hb; replace HO443 := zA (kL (zP HO443.out) hb); replace HB := zA (kQ (zV HB.out (Z140.ge HI0.out) GE439.out) hb); have BK446 := zA (hbox); have GW446 := zA (zB6 hg (kX (w := w) (g := g) (row := none) (yB HK.out GW439.out)) : w.heap.size ≤ gb446); have GE446 := zA ((Nat.le_trans HW0.out (by rw [hg]; exact (kX (w := w) (g := g) (row := none) (yB HK.out GW439.out)) : w.heap.size ≤ gb446) : w0.heap.size ≤ gb446)); replace HK := zA (kT (yB HK.out GW439.out) (kU hb g none) (.inl rfl)); have NB439_446 := zA (zB4 hg BK439.out : gb439 ≠ gb446); have NB446_439 := zA (zB5 hg BK439.out : gb446 ≠ gb439); replace BK439 := zA (zB1 BK439.out hb); have NB0_446 := zA (zB7 hg (Z140.lt (show Z140 w0 _ g s0_0 t444 t445 from Z140.uB HI0.out NB0_439.out)) : g ≠ gb446); have NB446_0 := zA (zB8 hg (Z140.lt (show Z140 w0 _ g s0_0 t444 t445 from Z140.uB HI0.out NB0_439.out)) : gb446 ≠ g); replace HI0 := zA (Z140.below (Z140.uB HI0.out NB0_439.out) hb); clear hb hbox hg; have hnb43 := NB446_439.out; have hnc43 := NB439_446.out; have hnb44 := NB446_0.out; have hnc44 := NB0_446.out; obtain ⟨hcz45_0, hcz45_1, hfz45_0, hfz45_1⟩ := zB3 BK446.out; obtain ⟨Ao46, co46, eo46⟩ := kM HO443.out; subst eo46) | (refine zO (some 11) Tryd.func128 #[.pointer (some ⟨g, 0, none⟩), .int .i64 14] ?_; (with_reducible refine (spec_l01Next.calls g s0_0 t444 t445 14 t447 t448 t449 w0 _ ?side1 ?side2 A4.out).mono ?_); (case side1 => exact Z140.uC HI0.out NB0_439.out NB0_446.out); (case side2 => exact zW HB.out (Z140.ge HI0.out) GE439.out GE446.out); rintro e w47 ⟨rfl, hi, hb, hk⟩; refine ⟨_, rfl, ?_⟩; replace BK439 := zA (KeepBut.blk hk (g' := gb439) (o := .cells #[.int .i64 0, .slice none 0 0] 29 (0, 0)) (zBG BK439.out NB439_446.out NB439_446.out) NB439_0.out (by simp)); replace HO443 := zA (kA (Kd.R_keep (Z140.apart (show Z140 w0 _ g s0_0 t444 t445 from Z140.uC HI0.out NB0_439.out NB0_446.out) (zP (zFG HO443.out BK446.out (.int .i64 t440) (.slice Ao46 t441.length co46))) (by decide)) hk (fun _ h => h.2)) (fun _ h => h.1)); replace BK446 := zA (KeepBut.blk hk (g' := gb446) (o := .cells #[.int .i64 t440, .slice Ao46 t441.length co46] 29 (0, 0)) (zRP BK446.out) NB446_0.out (by simp)); replace HK := zA (kT (yC HK.out GW439.out GW446.out) hk (.inl rfl)); replace HB := zA (hb); replace HI0 := zA (hi); (try clear hb); (try clear hk); (try clear hi)) | (refine zO (some 15) Tryd.func128 #[.pointer (some ⟨g, 0, none⟩), .int .i64 4] ?_; (with_reducible refine (spec_l01Next.calls g s0_0 t448 t449 4 t450 t451 t452 w0 _ ?side1 ?side2 A17.out).mono ?_); (case side1 => exact Z140.uC HI0.out NB0_439.out NB0_446.out); (case side2 => exact zW HB.out (Z140.ge HI0.out) GE439.out GE446.out); rintro e w48 ⟨rfl, hi, hb, hk⟩; refine ⟨_, rfl, ?_⟩; replace BK439 := zA (zB2 hk BK439.out NB439_0.out); replace HO443 := zA (zB9 (Z140.apart (show Z140 w0 _ g s0_0 t448 t449 from Z140.uC HI0.out NB0_439.out NB0_446.out) (zP HO443.out) (by decide)) hk); replace BK446 := zA (zB2 hk BK446.out NB446_0.out); replace HK := zA (kT (yC HK.out GW439.out GW446.out) hk (.inl rfl)); replace HB := zA (hb); replace HI0 := zA (hi); (try clear hb); (try clear hk); (try clear hi)))
   replace HO443 := zA (zH HO443.out)
   replace BK439 := zA (zK BK439.out)
   replace BK446 := zA (zK BK446.out)
   replace HI0 := zA (Z140.drew HI0.out)
   replace HK := zA (keep_drew HK.out)
   replace HB := zA (zD HB.out)
   refine start_ (n := 9) (S := fun w' => w'.cell? ⟨gb446, 0, none⟩ = some (.int .i64 t440) ∧ w'.cell? ⟨gb446, 1, none⟩ = some (.slice Ao46 t441.length co46)) (ds := [8]) #[false, false, false, false, false, false, false, false, false] (by kernel_rfl) rfl rfl ⟨(kV BK446.out 0).trans rfl, (kV BK446.out 1).trans rfl⟩ (fun hHeld => ?_); refine with_tabW spec_l02Spoil.tab11 spec_l02Spoil.bits11 (fun HT_ HW_ => ?_)
   generalize w48.drew = w49 at HO443 BK439 BK446 HI0 HK HB hHeld ⊢
   refine zp 0 (some 63) #[true, false, false, false, false, false, false, false, false] HT_.out ?_
   refine zp 2 (some 65) #[true, false, true, false, false, false, false, false, false] HT_.out ?_
   refine zc 1 (some 64) #[true, true, true, false, false, false, false, false, false] HT_.out HW_.out hHeld ?_
   refine one_ (i := 3) (N := some 66) #[true, true, true, true, false, false, false, false, false] rfl rfl (one_of HT_.out (by kernel_rfl)) (by decide) (fun K hK => ?_)
   refine Kd.R_lit_step (Kd.int .i64) _ 2 ?hg (N := 66) ?hd (xs := ([0, 1, 255] : List Int)) (inner := [.int .i64 0, .int .i64 1, .int .i64 255]) (ok := fun _ => True) (okp := fun _ => True) ?hr ?hp (fun _ hk => hk) trivial (kW _ _) (Nat.le_refl _) (by simp) ?_; (case hd => rfl); (case hg => rfl); (case hr => first | (go_simp; done) | (go_simp; rfl)); (case hp => exact (Reps.one (show Kd.M (Kd.int .i64) _ _ _ 0 [.int .i64 0] from rfl) (Reps.one (show Kd.M (Kd.int .i64) _ _ _ 1 [.int .i64 1] from rfl) (Reps.one (show Kd.M (Kd.int .i64) _ _ _ 255 [.int .i64 255] from rfl) (Reps.none _ _)))))
   intro v460 w50 ho51 hb hg_ hnew_
   clear hg_ hnew_
   (first | rw [← Ny459.out] at ho51 | (simp only [Int.reduceToNat] at ho51; rw [← Ny459.out] at ho51))
   have HO461 := zA (kI (kF ho51 (kH (zP HO443.out))) (kX (w := w) (g := g) (row := none) (yC HK.out GW439.out GW446.out)))
   replace HO443 := zA (kE (zP HO443.out) (kC ho51) hb)
   replace BK439 := zA (zB1 BK439.out hb)
   replace BK446 := zA (zB1 BK446.out hb)
   replace HK := zA (kT (yC HK.out GW439.out GW446.out) (kU hb g none) (.inl rfl))
   replace HB := zA (kQ (zW HB.out (Z140.ge HI0.out) GE439.out GE446.out) hb)
   replace HI0 := zA (Z140.below (Z140.uC HI0.out NB0_439.out NB0_446.out) hb)
   clear hb ho51
   obtain ⟨Ao52, co52, eo52⟩ := kM HO461.out
   (first | subst eo52 | (injection eo52 with f1_ f2_ f3_; have f4_ := f1_.symm; have f5_ := f3_.symm; clear f1_ f2_ f3_; subst f4_; subst f5_))
   refine hK.out _ _ ⟨(kV BK446.out 0).trans rfl, (kV BK446.out 1).trans rfl⟩ (fun hHeld => ?_)
   clear hK K
   refine norm_ (a' := ?_) ?_ ?_
   rotate_left
   ·show Act.put _ (some 66) _ = _
    simp only [Act.put, zL, zM, zN, i64_w, i32_w]
    rfl
   refine one_ (i := 4) (N := some 67) #[true, true, true, true, true, false, false, false, false] rfl rfl (one_of HT_.out (by kernel_rfl)) (by decide) (fun K hK => ?_)
   refine goes_ Tryd.func181 (by kernel_rfl) rfl #[.pointer (some ⟨g, 0, none⟩), .slice Ao52 y459.length co52] (by rfl) rfl rfl zg ?_
   with_reducible refine (spec_l01Pick.calls g s0_0 t451 t452 _ _ y459 t462 t463 t464 w0 _ ?side1 ?side2 ?side3 ?side4 ?side5 A38.out).mono ?_
   (case side1 => exact Z140.uC HI0.out NB0_439.out NB0_446.out)
   (case side2 => exact zW HB.out (Z140.ge HI0.out) GE439.out GE446.out)
   (case side3 => exact zS (kB HO461.out).2.2)
   (case side4 => exact (kB HO461.out).2.1)
   (case side5 => exact jJ (Z140.own_ne HI0.out HO461.out (by decide)))
   rintro e w53 ⟨rfl, hi, hb, hk⟩
   refine ⟨_, rfl, ?_⟩
   replace BK439 := zA (zB2 hk BK439.out NB439_0.out)
   replace HO443 := zA (zB9 (Z140.apart (show Z140 w0 _ g s0_0 t451 t452 from Z140.uC HI0.out NB0_439.out NB0_446.out) (zP HO443.out) (by decide)) hk)
   replace BK446 := zA (zB2 hk BK446.out NB446_0.out)
   replace HO461 := zA (zB9 (Z140.apart (show Z140 w0 _ g s0_0 t451 t452 from Z140.uC HI0.out NB0_439.out NB0_446.out) (zP HO461.out) (by decide)) hk)
   replace HK := zA (kT (yC HK.out GW439.out GW446.out) hk (.inl rfl))
   replace HB := zA (hb)
   replace HI0 := zA (hi)
   (try clear hb)
   (try clear hb2)
   (try clear hk)
   (try clear hi)
   (try clear hgw)
   refine hK.out _ _ ⟨(kV BK446.out 0).trans rfl, (kV BK446.out 1).trans rfl⟩ (fun hHeld => ?_)
   clear hK K
   refine norm_ (a' := ?_) ?_ ?_
   rotate_left
   ·show Act.put _ (some 67) _ = _
    simp only [Act.put, zL, zM, zN, i64_w, i32_w]
    rfl
   refine one_ (i := 5) (N := some 68) #[true, true, true, true, true, true, false, false, false] rfl rfl (one_of HT_.out (by kernel_rfl)) (by decide) (fun K hK => ?_)
   refine value_ (w1 := ?_) (v := ?_) (by rfl) rfl ?_ ?_
   rotate_left 2
   ·go_simp
    constructor
    ·rfl
    rfl
   refine hK.out _ _ ⟨(kV (zI BK446.out _) 0).trans rfl, (kV (zI BK446.out _) 1).trans rfl⟩ (fun hHeld => ?_)
   clear hK K
   refine norm_ (a' := ?_) ?_ ?_
   rotate_left
   ·show Act.put _ (some 68) _ = _
    simp only [Act.put, zL, zM, zN, i64_w, i32_w]
    rfl
   refine one_ (i := 6) (N := some 69) #[true, true, true, true, true, true, true, false, false] rfl rfl (one_of HT_.out (by kernel_rfl)) (by decide) (fun K hK => ?_)
   refine Kd.R_append_step (Kd.int .i64) w.heap.size (by rfl) (.tmp 64) (.tmp 68) 22 2 (.int .i64 0) 8 rfl Tryd.underlying22 info2 rfl (by decide) (by omega) (.slice Ao46 t441.length co46) t441 t462 [.int .i64 t462] (fun k_ => some k_ ≠ (.slice Ao52 y459.length co52 : Value).ownBlock) (fun _ => False) rfl rfl ?aP (fun _ hk => hk.elim) ?aF ?aO (kW _ _) ?aS ?aL ?_
   (case aP => exact rfl)
   (case aF => exact (fun k_ hk => jF (kH (zP HO461.out)) k_ hk))
   (case aO => exact (by (with_reducible repeat (first | apply zF | apply zG | apply zH)); exact kA HO443.out (fun _ hk => hk.2)))
   (case aS => exact (kX (w := w) (g := g) (row := none) (yC HK.out GW439.out GW446.out)))
   (case aL => have := LMc39.out; omega)
   intro v466 w54 ho hb hg hat
   rw [← Ny465.out] at ho
   replace BK439 := zA (blk_grown (g := gb439) (o := .cells #[.int .i64 0, .slice none 0 0] 29 (0, 0)) (zR BK439.out) hg (Kd.R_ne HO443.out BK439.out (by decide)))
   replace BK446 := zA (blk_grown (g := gb446) (o := .cells #[.int .i64 t440, .slice Ao46 t441.length co46] 29 (0, 0)) (zR BK446.out) hg (Kd.R_ne HO443.out BK446.out (by decide)))
   replace HO461 := zA (Kd.R_after (ok := (fun _ => True)) (zP HO461.out) hg hat)
   replace HB := zA (below_weaken (zW HB.out (Z140.ge HI0.out) GE439.out GE446.out) HL.out hb)
   replace HI0 := zA (Z140.grown (Z140.uC HI0.out NB0_439.out NB0_446.out) hg (Z140.own_ne HI0.out HO443.out (by decide)))
   replace HK := zA (kT (yC HK.out GW439.out GW446.out) (KeepBut.of_grown hg g) (Kd.R_base2 HO443.out))
   have HO467 := zA (ho)
   clear HO443 ho hb hg hat
   obtain ⟨Ao55, co55, eo55⟩ := kM HO467.out
   (first | subst eo55 | (injection eo55 with f1_ f2_ f3_; have f4_ := f1_.symm; have f5_ := f3_.symm; clear f1_ f2_ f3_; subst f4_; subst f5_))
   refine hK.out _ _ ⟨(kV BK446.out 0).trans rfl, (kV BK446.out 1).trans rfl⟩ (fun hHeld => ?_)
   clear hK K
   refine norm_ (a' := ?_) ?_ ?_
   rotate_left
   ·show Act.put _ (some 69) _ = _
    simp only [Act.put, zL, zM, zN, i64_w, i32_w]
    rfl
   refine zp 7 (some 70) #[true, true, true, true, true, true, true, true, false] HT_.out ?_
   refine last_ (i := 8) (N := none) #[true, true, true, true, true, true, true, true, true] rfl rfl (one_of HT_.out (by kernel_rfl)) (by decide) (fun K hK => ?_)
   have hs56 : w54.cell? ⟨gb446, 1, none⟩ = some (.slice Ao46 t441.length co46) := (kV BK446.out 1).trans rfl
   have hfs56 := jH BK446.out 1
   have hns56_0 := NB439_446.out
   have hms56_0 := NB446_439.out
   refine skip_ (w1 := ?_) (by rfl) rfl ?_ ?_
   rotate_left
   ·go_simp
    rfl
   refine hK.out _ _ ?_
   clear hK K
   refine done_ (done_of HT_.out (by kernel_rfl)) ?_
   obtain ⟨hcz57_0, hcz57_1, hfz57_0, hfz57_1⟩ := zB3 BK446.out
   have hnb58 := NB439_0.out
   have hnc58 := NB0_439.out
   obtain ⟨hcz59_0, hcz59_1, hfz59_0, hfz59_1⟩ := zB3 BK439.out
   try go_wp2
   refine bodyPost_ret (results_cell_row rfl _ _ gb439 29 #[.int .i64 t440, .slice Ao55 y465.length co55] (0, 0) _ rfl (by (with_reducible repeat (first | refine zJ ?_ _ | refine zK ?_ | refine zI ?_ _)); refine blk_put (cs := #[.int .i64 t440, .slice none 0 0]) ?_ 1 _ rfl; (with_reducible repeat (first | refine zJ ?_ _ | refine zK ?_ | refine zI ?_ _)); refine blk_put (cs := #[.int .i64 0, .slice none 0 0]) ?_ 0 _ rfl; (with_reducible repeat (first | refine zJ ?_ _ | refine zK ?_ | refine zI ?_ _)); refine blk_far ?_ NB439_446.out _; (with_reducible repeat (first | refine zJ ?_ _ | refine zK ?_ | refine zI ?_ _)); exact BK439.out) Tryd.underlying29 rfl (by kernel_rfl)) rfl ?_
   exact ⟨_, zr, by (with_reducible repeat (first | apply zF | apply zG | apply zH)); exact kA (kY (p := ⟨gb439, 1, none⟩) (kY (p := ⟨gb439, 0, none⟩) (kY (p := ⟨gb446, 1, none⟩) (kD (kD HO467.out BK446.out (by decide)) BK439.out (by decide)) (fun _ hk => hk.1.2) (.slice Ao55 y465.length co55)) (fun _ hk => hk.2) (.int .i64 t440)) (fun _ hk => hk.2) (.slice Ao55 y465.length co55)) (fun _ hk => trivial), by repeat (first | (with_reducible first | exact HI0.out | apply Z140.alloc | apply Z140.drewN | apply Z140.drew | apply Z140.set_1 | apply Z140.set_2 | refine Z140.far ?_ NB0_439.out _ | refine Z140.far ?_ NB0_446.out _) | exact HI0.out), zW HB.out (Z140.ge HI0.out) GE439.out GE446.out, by repeat (first | (with_reducible first | exact HK.out | apply KeepBut.set_ | apply keep_drewN | apply keep_drew | apply keep_alloc | refine keep_far ?_ GW439.out _ | refine keep_far ?_ GW446.out _) | exact HK.out)⟩
  rw [if_neg c39] at H
  exact absurd H (by simp)
 rw [if_neg c37] at H
 obtain ⟨c37b0, c37b1⟩ := zT2 c37
 by_cases c60 : t440 > 0
 ·rw [if_pos c60] at H
  have c60b0 : decide (0 < t440) = true := decide_eq_true c60
  clear c60
  obtain ⟨⟨t468, t469, t470⟩, A61, H⟩ := zb H
  try dsimp only at H
  by_cases c62 : 0 ≤ t468
  ·rw [if_pos c62] at H
   have c62b0 : decide (0 ≤ t468) = true := decide_eq_true c62
   clear c62
   by_cases c63 : t468 < (t441.length : Int)
   ·rw [if_pos c63] at H
    have c63b0 : decide (t468 < (t441.length : Int)) = true := decide_eq_true c63
    clear c63
    obtain ⟨t472, A64, H⟩ := zb H
    try dsimp only at H
    obtain ⟨t474, A65, H⟩ := zb H
    try dsimp only at H
    obtain ⟨t475, A66, H⟩ := zb H
    try dsimp only at H
    obtain ⟨⟨t476, t477, t478⟩, A67, H⟩ := zb H
    try dsimp only at H
    obtain ⟨y479, hy479⟩ : ∃ y_ : List Int, y_ = (([wrap64 ((rd t441 t468) - t472), Go.bits .or .i64 (rd t441 t468) t474, t476, (-1)] : List Int)) := ⟨_, rfl⟩
    replace H : ((spec_l01Pick.f s0_0 t477 t478 y479).bind fun bt482 => (some (t440, (t441.set (t468 : Int).toNat bt482.1), bt482.2.1, bt482.2.2))) = some (r1, r2, r3, r4) := zy hy479 H
    have Ny479 := zA hy479
    clear hy479
    obtain ⟨⟨t482, t483, t484⟩, A68, H⟩ := zb H
    try dsimp only at H
    obtain ⟨y485, hy485⟩ : ∃ y_ : List Int, y_ = (t441.set (t468 : Int).toNat t482) := ⟨_, rfl⟩
    replace H : (some (t440, y485, t483, t484)) = some (r1, r2, r3, r4) := zy hy485 H
    have Ny485 := zA hy485
    clear hy485
    simp only [Option.some.injEq, Prod.mk.injEq] at H
    obtain ⟨rfl, rfl, rfl, rfl⟩ := H
    go_enter Tryd.func131, Tryd.ntmps131
    try go_wp2_with (first | (refine zBE 4 #[.int .i64 0, .slice none 0 0] 29 ?_; intro gb439 hg w70 hbox hb; replace HB := zA (kQ (zT HB.out (Z140.ge HI0.out)) hb); have BK439 := zA (hbox); have GW439 := zA (zB6 hg (kX (w := w) (g := g) (row := none) (yA HK.out)) : w.heap.size ≤ gb439); have GE439 := zA ((Nat.le_trans HW0.out (by rw [hg]; exact (kX (w := w) (g := g) (row := none) (yA HK.out)) : w.heap.size ≤ gb439) : w0.heap.size ≤ gb439)); replace HK := zA (kT (yA HK.out) (kU hb g none) (.inl rfl)); have NB0_439 := zA (zB7 hg (Z140.lt (show Z140 w0 _ g s0_0 s0_1 s0_2 from Z140.uA HI0.out)) : g ≠ gb439); have NB439_0 := zA (zB8 hg (Z140.lt (show Z140 w0 _ g s0_0 s0_1 s0_2 from Z140.uA HI0.out)) : gb439 ≠ g); replace HI0 := zA (Z140.below (Z140.uA HI0.out) hb); clear hb hbox hg) | (refine zO (some 9) Tryd.func172 #[.pointer (some ⟨g, 0, none⟩), .int .i64 a1] ?_; (with_reducible refine (spec_l02Draw.calls k g s0_0 s0_1 s0_2 a1 t440 t441 t444 t445 w0 _ ?side1 ?side2 A3.out).mono ?_); (case side1 => exact Z140.uB HI0.out NB0_439.out); (case side2 => exact zV HB.out (Z140.ge HI0.out) GE439.out); rintro e w71 ⟨v442, rfl, ho0, hi, hb, hk⟩; refine ⟨_, rfl, ?_⟩; replace BK439 := zA (zB2 hk BK439.out NB439_0.out); have HO443 := zA (kI ho0 (kX (w := w) (g := g) (row := none) (yB HK.out GW439.out))); replace HK := zA (kT (yB HK.out GW439.out) hk (.inl rfl)); replace HB := zA (hb); replace HI0 := zA (hi); (try clear hb); (try clear hk); (try clear hi); (try clear ho0)) | (refine zBE 5 #[.int .i64 0, .slice none 0 0] 29 ?_; intro gb446 hg w72 hbox hb; replace HO443 := zA (kL (zP HO443.out) hb); replace HB := zA (kQ (zV HB.out (Z140.ge HI0.out) GE439.out) hb); have BK446 := zA (hbox); have GW446 := zA (zB6 hg (kX (w := w) (g := g) (row := none) (yB HK.out GW439.out)) : w.heap.size ≤ gb446); have GE446 := zA ((Nat.le_trans HW0.out (by rw [hg]; exact (kX (w := w) (g := g) (row := none) (yB HK.out GW439.out)) : w.heap.size ≤ gb446) : w0.heap.size ≤ gb446)); replace HK := zA (kT (yB HK.out GW439.out) (kU hb g none) (.inl rfl)); have NB439_446 := zA (zB4 hg BK439.out : gb439 ≠ gb446); have NB446_439 := zA (zB5 hg BK439.out : gb446 ≠ gb439); replace BK439 := zA (zB1 BK439.out hb); have NB0_446 := zA (zB7 hg (Z140.lt (show Z140 w0 _ g s0_0 t444 t445 from Z140.uB HI0.out NB0_439.out)) : g ≠ gb446); have NB446_0 := zA (zB8 hg (Z140.lt (show Z140 w0 _ g s0_0 t444 t445 from Z140.uB HI0.out NB0_439.out)) : gb446 ≠ g); replace HI0 := zA (Z140.below (Z140.uB HI0.out NB0_439.out) hb); clear hb hbox hg; have hnb73 := NB446_439.out; have hnc73 := NB439_446.out; have hnb74 := NB446_0.out; have hnc74 := NB0_446.out; obtain ⟨hcz75_0, hcz75_1, hfz75_0, hfz75_1⟩ := zB3 BK446.out; obtain ⟨Ao76, co76, eo76⟩ := kM HO443.out; subst eo76) | (refine zO (some 11) Tryd.func128 #[.pointer (some ⟨g, 0, none⟩), .int .i64 14] ?_; (with_reducible refine (spec_l01Next.calls g s0_0 t444 t445 14 t447 t448 t449 w0 _ ?side1 ?side2 A4.out).mono ?_); (case side1 => exact Z140.uC HI0.out NB0_439.out NB0_446.out); (case side2 => exact zW HB.out (Z140.ge HI0.out) GE439.out GE446.out); rintro e w77 ⟨rfl, hi, hb, hk⟩; refine ⟨_, rfl, ?_⟩; replace BK439 := zA (KeepBut.blk hk (g' := gb439) (o := .cells #[.int .i64 0, .slice none 0 0] 29 (0, 0)) (zBG BK439.out NB439_446.out NB439_446.out) NB439_0.out (by simp)); replace HO443 := zA (kA (Kd.R_keep (Z140.apart (show Z140 w0 _ g s0_0 t444 t445 from Z140.uC HI0.out NB0_439.out NB0_446.out) (zP (zFG HO443.out BK446.out (.int .i64 t440) (.slice Ao76 t441.length co76))) (by decide)) hk (fun _ h => h.2)) (fun _ h => h.1)); replace BK446 := zA (KeepBut.blk hk (g' := gb446) (o := .cells #[.int .i64 t440, .slice Ao76 t441.length co76] 29 (0, 0)) (zRP BK446.out) NB446_0.out (by simp)); replace HK := zA (kT (yC HK.out GW439.out GW446.out) hk (.inl rfl)); replace HB := zA (hb); replace HI0 := zA (hi); (try clear hb); (try clear hk); (try clear hi)) | (refine zO (some 15) Tryd.func128 #[.pointer (some ⟨g, 0, none⟩), .int .i64 4] ?_; (with_reducible refine (spec_l01Next.calls g s0_0 t448 t449 4 t450 t451 t452 w0 _ ?side1 ?side2 A17.out).mono ?_); (case side1 => exact Z140.uC HI0.out NB0_439.out NB0_446.out); (case side2 => exact zW HB.out (Z140.ge HI0.out) GE439.out GE446.out); rintro e w78 ⟨rfl, hi, hb, hk⟩; refine ⟨_, rfl, ?_⟩; replace BK439 := zA (zB2 hk BK439.out NB439_0.out); replace HO443 := zA (zB9 (Z140.apart (show Z140 w0 _ g s0_0 t448 t449 from Z140.uC HI0.out NB0_439.out NB0_446.out) (zP HO443.out) (by decide)) hk); replace BK446 := zA (zB2 hk BK446.out NB446_0.out); replace HK := zA (kT (yC HK.out GW439.out GW446.out) hk (.inl rfl)); replace HB := zA (hb); replace HI0 := zA (hi); (try clear hb); (try clear hk); (try clear hi); obtain ⟨hcz79_0, hcz79_1, hfz79_0, hfz79_1⟩ := zB3 BK446.out) | (refine zO (some 22) Tryd.func128 #[.pointer (some ⟨g, 0, none⟩), .int .i64 t440] ?_; (with_reducible refine (spec_l01Next.calls g s0_0 t451 t452 t440 t468 t469 t470 w0 _ ?side1 ?side2 A61.out).mono ?_); (case side1 => exact Z140.uC HI0.out NB0_439.out NB0_446.out); (case side2 => exact zW HB.out (Z140.ge HI0.out) GE439.out GE446.out); rintro e w80 ⟨rfl, hi, hb, hk⟩; refine ⟨_, rfl, ?_⟩; replace BK439 := zA (zB2 hk BK439.out NB439_0.out); replace HO443 := zA (zB9 (Z140.apart (show Z140 w0 _ g s0_0 t451 t452 from Z140.uC HI0.out NB0_439.out NB0_446.out) (zP HO443.out) (by decide)) hk); replace BK446 := zA (zB2 hk BK446.out NB446_0.out); replace HK := zA (kT (yC HK.out GW439.out GW446.out) hk (.inl rfl)); replace HB := zA (hb); replace HI0 := zA (hi); (try clear hb); (try clear hk); (try clear hi)))
    replace HO443 := zA (zH HO443.out)
    replace BK439 := zA (zK BK439.out)
    replace BK446 := zA (zK BK446.out)
    replace HI0 := zA (Z140.drew HI0.out)
    replace HK := zA (keep_drew HK.out)
    replace HB := zA (zD HB.out)
    have p471 : 0 ≤ (t468 : Int) := zd
    have q471 : t468 < (t441.length : Int) := zd
    obtain ⟨ad471, e471, hx471_0⟩ := Kd.at_int (kB HO443.out).2.2 t468 p471 q471
    cases e471
    replace p471 := eq_true p471
    replace q471 := eq_true q471
    have p473 : 0 ≤ (t468 : Int) := zd
    have q473 : t468 < (t441.length : Int) := zd
    obtain ⟨ad473, e473, hx473_0⟩ := Kd.at_int (kB HO443.out).2.2 t468 p473 q473
    obtain rfl : ad471 = ad473 := (by injection e473)
    replace p473 := eq_true p473
    replace q473 := eq_true q473
    refine start_ (n := 30) (S := fun w' => w'.cell? ⟨gb446, 0, none⟩ = some (.int .i64 t440) ∧ w'.cell? ⟨gb446, 1, none⟩ = some (.slice (some ad471) t441.length co76) ∧ w'.cell? (ad471.add (t468).toNat) = some (.int .i64 (rd t441 t468)) ∧ w'.cell? (ad471.add (t468).toNat) = some (.int .i64 (rd t441 t468))) (ds := [29]) #[false, false, false, false, false, false, false, false, false, false, false, false, false, false, false, false, false, false, false, false, false, false, false, false, false, false, false, false, false, false] (by kernel_rfl) rfl rfl ⟨(kV BK446.out 0).trans rfl, (kV BK446.out 1).trans rfl, hx471_0, hx473_0⟩ (fun hHeld => ?_); refine with_tabW spec_l02Spoil.tab7 spec_l02Spoil.bits7 (fun HT_ HW_ => ?_)
    generalize w80.drew = w81 at HO443 BK439 BK446 HI0 HK HB hx471_0 hx473_0 hHeld ⊢
    refine zp 0 (some 23) #[true, false, false, false, false, false, false, false, false, false, false, false, false, false, false, false, false, false, false, false, false, false, false, false, false, false, false, false, false, false] HT_.out ?_
    refine zp 2 (some 25) #[true, false, true, false, false, false, false, false, false, false, false, false, false, false, false, false, false, false, false, false, false, false, false, false, false, false, false, false, false, false] HT_.out ?_
    refine zp 3 (some 26) #[true, false, true, true, false, false, false, false, false, false, false, false, false, false, false, false, false, false, false, false, false, false, false, false, false, false, false, false, false, false] HT_.out ?_
    refine zp 4 (some 27) #[true, false, true, true, true, false, false, false, false, false, false, false, false, false, false, false, false, false, false, false, false, false, false, false, false, false, false, false, false, false] HT_.out ?_
    refine zp 6 (some 29) #[true, false, true, true, true, false, true, false, false, false, false, false, false, false, false, false, false, false, false, false, false, false, false, false, false, false, false, false, false, false] HT_.out ?_
    refine zp 9 (some 32) #[true, false, true, true, true, false, true, false, false, true, false, false, false, false, false, false, false, false, false, false, false, false, false, false, false, false, false, false, false, false] HT_.out ?_
    refine zp 12 (some 35) #[true, false, true, true, true, false, true, false, false, true, false, false, true, false, false, false, false, false, false, false, false, false, false, false, false, false, false, false, false, false] HT_.out ?_
    refine zp 14 (some 37) #[true, false, true, true, true, false, true, false, false, true, false, false, true, false, true, false, false, false, false, false, false, false, false, false, false, false, false, false, false, false] HT_.out ?_
    refine zp 17 (some 40) #[true, false, true, true, true, false, true, false, false, true, false, false, true, false, true, false, false, true, false, false, false, false, false, false, false, false, false, false, false, false] HT_.out ?_
    refine zp 21 (some 44) #[true, false, true, true, true, false, true, false, false, true, false, false, true, false, true, false, false, true, false, false, false, true, false, false, false, false, false, false, false, false] HT_.out ?_
    refine zp 22 (some 45) #[true, false, true, true, true, false, true, false, false, true, false, false, true, false, true, false, false, true, false, false, false, true, true, false, false, false, false, false, false, false] HT_.out ?_
    refine zf 1 (some 24) #[true, true, true, true, true, false, true, false, false, true, false, false, true, false, true, false, false, true, false, false, false, true, true, false, false, false, false, false, false, false] HT_.out HW_.out hHeld ?_
    refine zf 5 (some 28) #[true, true, true, true, true, true, true, false, false, true, false, false, true, false, true, false, false, true, false, false, false, true, true, false, false, false, false, false, false, false] HT_.out HW_.out hHeld ?_
    refine zp 7 (some 30) #[true, true, true, true, true, true, true, true, false, true, false, false, true, false, true, false, false, true, false, false, false, true, true, false, false, false, false, false, false, false] HT_.out ?_
    refine zf 8 (some 31) #[true, true, true, true, true, true, true, true, true, true, false, false, true, false, true, false, false, true, false, false, false, true, true, false, false, false, false, false, false, false] HT_.out HW_.out hHeld ?_
    refine zf 13 (some 36) #[true, true, true, true, true, true, true, true, true, true, false, false, true, true, true, false, false, true, false, false, false, true, true, false, false, false, false, false, false, false] HT_.out HW_.out hHeld ?_
    refine zp 15 (some 38) #[true, true, true, true, true, true, true, true, true, true, false, false, true, true, true, true, false, true, false, false, false, true, true, false, false, false, false, false, false, false] HT_.out ?_
    refine zf 16 (some 39) #[true, true, true, true, true, true, true, true, true, true, false, false, true, true, true, true, true, true, false, false, false, true, true, false, false, false, false, false, false, false] HT_.out HW_.out hHeld ?_
    refine zf 18 (some 41) #[true, true, true, true, true, true, true, true, true, true, false, false, true, true, true, true, true, true, true, false, false, true, true, false, false, false, false, false, false, false] HT_.out HW_.out hHeld ?_
    refine zf 23 (some 46) #[true, true, true, true, true, true, true, true, true, true, false, false, true, true, true, true, true, true, true, false, false, true, true, true, false, false, false, false, false, false] HT_.out HW_.out hHeld ?_
    refine one_ (i := 10) (N := some 33) #[true, true, true, true, true, true, true, true, true, true, true, false, true, true, true, true, true, true, true, false, false, true, true, true, false, false, false, false, false, false] rfl rfl (one_of HT_.out (by kernel_rfl)) (by decide) (fun K hK => ?_)
    refine goes_ Tryd.func144 (by kernel_rfl) rfl #[.int .i64 t468] (by rfl) rfl rfl zg ?_
    with_reducible refine (spec_l01One.calls t468 t472 _ A64.out).mono ?_
    rintro e w' ⟨rfl, ⟨nd, rfl⟩⟩
    refine ⟨_, rfl, ?_⟩
    refine hK.out _ _ ⟨(kV BK446.out 0).trans rfl, (kV BK446.out 1).trans rfl, hHeld.2.2.1, hHeld.2.2.2⟩ (fun hHeld => ?_)
    clear hK K
    refine norm_ (a' := ?_) ?_ ?_
    rotate_left
    ·show Act.put _ (some 33) _ = _
     simp only [Act.put, zL, zM, zN, i64_w, i32_w]
     rfl
    refine zp 11 (some 34) #[true, true, true, true, true, true, true, true, true, true, true, true, true, true, true, true, true, true, true, false, false, true, true, true, false, false, false, false, false, false] HT_.out ?_
    refine one_ (i := 19) (N := some 42) #[true, true, true, true, true, true, true, true, true, true, true, true, true, true, true, true, true, true, true, true, false, true, true, true, false, false, false, false, false, false] rfl rfl (one_of HT_.out (by kernel_rfl)) (by decide) (fun K hK => ?_)
    refine goes_ Tryd.func144 (by kernel_rfl) rfl #[.int .i64 t440] (by rfl) rfl rfl zg ?_
    with_reducible refine (spec_l01One.calls t440 t474 _ A65.out).mono ?_
    rintro e w' ⟨rfl, ⟨nd, rfl⟩⟩
    refine ⟨_, rfl, ?_⟩
    refine hK.out _ _ ⟨(kV BK446.out 0).trans rfl, (kV BK446.out 1).trans rfl, hHeld.2.2.1, hHeld.2.2.2⟩ (fun hHeld => ?_)
    clear hK K
    refine norm_ (a' := ?_) ?_ ?_
    rotate_left
    ·show Act.put _ (some 42) _ = _
     simp only [Act.put, zL, zM, zN, i64_w, i32_w]
     rfl
    refine zp 20 (some 43) #[true, true, true, true, true, true, true, true, true, true, true, true, true, true, true, true, true, true, true, true, true, true, true, true, false, false, false, false, false, false] HT_.out ?_
    refine one_ (i := 24) (N := some 47) #[true, true, true, true, true, true, true, true, true, true, true, true, true, true, true, true, true, true, true, true, true, true, true, true, true, false, false, false, false, false] rfl rfl (one_of HT_.out (by kernel_rfl)) (by decide) (fun K hK => ?_)
    refine goes_ Tryd.func144 (by kernel_rfl) rfl #[.int .i64 t440] (by rfl) rfl rfl zg ?_
    with_reducible refine (spec_l01One.calls t440 t475 _ A66.out).mono ?_
    rintro e w' ⟨rfl, ⟨nd, rfl⟩⟩
    refine ⟨_, rfl, ?_⟩
    refine hK.out _ _ ⟨(kV BK446.out 0).trans rfl, (kV BK446.out 1).trans rfl, hHeld.2.2.1, hHeld.2.2.2⟩ (fun hHeld => ?_)
    clear hK K
    refine norm_ (a' := ?_) ?_ ?_
    rotate_left
    ·show Act.put _ (some 47) _ = _
     simp only [Act.put, zL, zM, zN, i64_w, i32_w]
     rfl
    refine one_ (i := 25) (N := some 48) #[true, true, true, true, true, true, true, true, true, true, true, true, true, true, true, true, true, true, true, true, true, true, true, true, true, true, false, false, false, false] rfl rfl (one_of HT_.out (by kernel_rfl)) (by decide) (fun K hK => ?_)
    refine goes_ Tryd.func128 (by kernel_rfl) rfl #[.pointer (some ⟨g, 0, none⟩), .int .i64 t475] (by rfl) rfl rfl zg ?_
    with_reducible refine (spec_l01Next.calls g s0_0 t469 t470 t475 t476 t477 t478 w0 _ ?side1 ?side2 A67.out).mono ?_
    (case side1 => exact Z140.uC HI0.out NB0_439.out NB0_446.out)
    (case side2 => exact zW HB.out (Z140.ge HI0.out) GE439.out GE446.out)
    rintro e w82 ⟨rfl, hi, hb, hk⟩
    have HS2_ := keep_cell hk (hHeld.2.2.1) (by first | (rw [add_block]; exact Kd.own_blk (Z140.own_ne HI0.out HO443.out (by decide))) | (show (Addr.add _ _).block ≠ _; rw [add_block]; exact Kd.own_blk (Z140.own_ne HI0.out HO443.out (by decide))) | exact Kd.own_blk (Z140.own_ne HI0.out HO443.out (by decide)))
    have HS3_ := keep_cell hk (hHeld.2.2.2) (by first | (rw [add_block]; exact Kd.own_blk (Z140.own_ne HI0.out HO443.out (by decide))) | (show (Addr.add _ _).block ≠ _; rw [add_block]; exact Kd.own_blk (Z140.own_ne HI0.out HO443.out (by decide))) | exact Kd.own_blk (Z140.own_ne HI0.out HO443.out (by decide)))
    refine ⟨_, rfl, ?_⟩
    replace BK439 := zA (zB2 hk BK439.out NB439_0.out)
    replace HO443 := zA (zB9 (Z140.apart (show Z140 w0 _ g s0_0 t469 t470 from Z140.uC HI0.out NB0_439.out NB0_446.out) (zP HO443.out) (by decide)) hk)
    replace BK446 := zA (zB2 hk BK446.out NB446_0.out)
    replace HK := zA (kT (yC HK.out GW439.out GW446.out) hk (.inl rfl))
    replace HB := zA (hb)
    replace HI0 := zA (hi)
    (try clear hb)
    (try clear hb2)
    (try clear hk)
    (try clear hi)
    (try clear hgw)
    refine hK.out _ _ ⟨(kV BK446.out 0).trans rfl, (kV BK446.out 1).trans rfl, HS2_, HS3_⟩ (fun hHeld => ?_)
    clear hK K
    refine norm_ (a' := ?_) ?_ ?_
    rotate_left
    ·show Act.put _ (some 48) _ = _
     simp only [Act.put, zL, zM, zN, i64_w, i32_w]
     rfl
    refine one_ (i := 26) (N := some 49) #[true, true, true, true, true, true, true, true, true, true, true, true, true, true, true, true, true, true, true, true, true, true, true, true, true, true, true, false, false, false] rfl rfl (one_of HT_.out (by kernel_rfl)) (by decide) (fun K hK => ?_)
    refine Kd.R_lit_step (Kd.int .i64) _ 2 ?hg (N := 49) ?hd (xs := ([wrap64 ((rd t441 t468) - t472), Go.bits .or .i64 (rd t441 t468) t474, t476, (-1)] : List Int)) (inner := [.int .i64 (wrap64 ((rd t441 t468) - t472)), .int .i64 (Go.bits .or .i64 (rd t441 t468) t474), .int .i64 t476, .int .i64 (-1)]) (ok := fun _ => True) (okp := fun _ => True) ?hr ?hp (fun _ hk => hk) trivial (kW _ _) (Nat.le_refl _) (by simp) ?_; (case hd => rfl); (case hg => rfl); (case hr => first | (go_simp; done) | (go_simp; rfl)); (case hp => exact (Reps.one (show Kd.M (Kd.int .i64) _ _ _ (wrap64 ((rd t441 t468) - t472)) [.int .i64 (wrap64 ((rd t441 t468) - t472))] from rfl) (Reps.one (show Kd.M (Kd.int .i64) _ _ _ (Go.bits .or .i64 (rd t441 t468) t474) [.int .i64 (Go.bits .or .i64 (rd t441 t468) t474)] from rfl) (Reps.one (show Kd.M (Kd.int .i64) _ _ _ t476 [.int .i64 t476] from rfl) (Reps.one (show Kd.M (Kd.int .i64) _ _ _ (-1) [.int .i64 (-1)] from rfl) (Reps.none _ _))))))
    intro v480 w83 ho84 hb hg_ hnew_
    have HS2_ := (hb.cell (jG _ _ (hHeld.2.2.1))).trans (hHeld.2.2.1)
    have HS3_ := (hb.cell (jG _ _ (hHeld.2.2.2))).trans (hHeld.2.2.2)
    clear hg_ hnew_
    (first | rw [← Ny479.out] at ho84 | (simp only [Int.reduceToNat] at ho84; rw [← Ny479.out] at ho84))
    have HO481 := zA (kI (kF ho84 (kH (zP HO443.out))) (kX (w := w) (g := g) (row := none) (yC HK.out GW439.out GW446.out)))
    replace HO443 := zA (kE (zP HO443.out) (kC ho84) hb)
    replace BK439 := zA (zB1 BK439.out hb)
    replace BK446 := zA (zB1 BK446.out hb)
    replace HK := zA (kT (yC HK.out GW439.out GW446.out) (kU hb g none) (.inl rfl))
    replace HB := zA (kQ (zW HB.out (Z140.ge HI0.out) GE439.out GE446.out) hb)
    replace HI0 := zA (Z140.below (Z140.uC HI0.out NB0_439.out NB0_446.out) hb)
    clear hb ho84
    obtain ⟨Ao85, co85, eo85⟩ := kM HO481.out
    (first | subst eo85 | (injection eo85 with f1_ f2_ f3_; have f4_ := f1_.symm; have f5_ := f3_.symm; clear f1_ f2_ f3_; subst f4_; subst f5_))
    refine hK.out _ _ ⟨(kV BK446.out 0).trans rfl, (kV BK446.out 1).trans rfl, HS2_, HS3_⟩ (fun hHeld => ?_)
    clear hK K
    refine norm_ (a' := ?_) ?_ ?_
    rotate_left
    ·show Act.put _ (some 49) _ = _
     simp only [Act.put, zL, zM, zN, i64_w, i32_w]
     rfl
    refine one_ (i := 27) (N := some 50) #[true, true, true, true, true, true, true, true, true, true, true, true, true, true, true, true, true, true, true, true, true, true, true, true, true, true, true, true, false, false] rfl rfl (one_of HT_.out (by kernel_rfl)) (by decide) (fun K hK => ?_)
    refine goes_ Tryd.func181 (by kernel_rfl) rfl #[.pointer (some ⟨g, 0, none⟩), .slice Ao85 y479.length co85] (by rfl) rfl rfl zg ?_
    with_reducible refine (spec_l01Pick.calls g s0_0 t477 t478 _ _ y479 t482 t483 t484 w0 _ ?side1 ?side2 ?side3 ?side4 ?side5 A68.out).mono ?_
    (case side1 => exact Z140.uC HI0.out NB0_439.out NB0_446.out)
    (case side2 => exact zW HB.out (Z140.ge HI0.out) GE439.out GE446.out)
    (case side3 => exact zS (kB HO481.out).2.2)
    (case side4 => exact (kB HO481.out).2.1)
    (case side5 => exact jJ (Z140.own_ne HI0.out HO481.out (by decide)))
    rintro e w86 ⟨rfl, hi, hb, hk⟩
    have HS2_ := keep_cell hk (hHeld.2.2.1) (by first | (rw [add_block]; exact Kd.own_blk (Z140.own_ne HI0.out HO443.out (by decide))) | (show (Addr.add _ _).block ≠ _; rw [add_block]; exact Kd.own_blk (Z140.own_ne HI0.out HO443.out (by decide))) | exact Kd.own_blk (Z140.own_ne HI0.out HO443.out (by decide)))
    have HS3_ := keep_cell hk (hHeld.2.2.2) (by first | (rw [add_block]; exact Kd.own_blk (Z140.own_ne HI0.out HO443.out (by decide))) | (show (Addr.add _ _).block ≠ _; rw [add_block]; exact Kd.own_blk (Z140.own_ne HI0.out HO443.out (by decide))) | exact Kd.own_blk (Z140.own_ne HI0.out HO443.out (by decide)))
    refine ⟨_, rfl, ?_⟩
    replace BK439 := zA (zB2 hk BK439.out NB439_0.out)
    replace HO443 := zA (zB9 (Z140.apart (show Z140 w0 _ g s0_0 t477 t478 from Z140.uC HI0.out NB0_439.out NB0_446.out) (zP HO443.out) (by decide)) hk)
    replace BK446 := zA (zB2 hk BK446.out NB446_0.out)
    replace HO481 := zA (zB9 (Z140.apart (show Z140 w0 _ g s0_0 t477 t478 from Z140.uC HI0.out NB0_439.out NB0_446.out) (zP HO481.out) (by decide)) hk)
    replace HK := zA (kT (yC HK.out GW439.out GW446.out) hk (.inl rfl))
    replace HB := zA (hb)
    replace HI0 := zA (hi)
    (try clear hb)
    (try clear hb2)
    (try clear hk)
    (try clear hi)
    (try clear hgw)
    have p69 : 0 ≤ (t468 : Int) := zd
    have q69 : (t468 : Int) < ((t441.length : Int) : Int) := zd
    obtain ⟨go69, co69, eo69, gb69, gl69, cl69, HG69⟩ := Kd.R_form HO443.out (by omega)
    (first | cases eo69 | (injection eo69 with ea_ en_ ec_; (first | subst ea_ | (injection ea_ with ea_; subst ea_)); subst ec_; clear en_))
    have GB69 := zA gb69
    have GG69 := zA HG69
    clear gb69 gl69 HG69
    (first | simp only [add_plain] at hx471_0 | skip)
    (first | simp only [add_plain] at hx473_0 | skip)
    obtain ⟨hx69_0, hf69_0⟩ := Kd.R_celln 0 HO443.out (t468 : Int) p69 q69
    replace p69 := eq_true p69
    replace q69 := eq_true q69
    have HN0_go69 := zA (show g ≠ go69 from by have h_ := Z140.own_ne HI0.out HO443.out (by decide); intro e_; exact h_ (by rw [e_]; rfl))
    have HP87 := Kd.R_putn HO443.out (t468 : Int) t482
    rw [← Ny485.out] at HP87
    have HQ87 := zA HP87
    clear HP87
    refine hK.out _ _ ⟨(kV BK446.out 0).trans rfl, (kV BK446.out 1).trans rfl, HS2_, HS3_⟩ (fun hHeld => ?_)
    clear hK K
    refine norm_ (a' := ?_) ?_ ?_
    rotate_left
    ·show Act.put _ (some 50) _ = _
     simp only [Act.put, zL, zM, zN, i64_w, i32_w]
     rfl
    refine zp 28 (some 51) #[true, true, true, true, true, true, true, true, true, true, true, true, true, true, true, true, true, true, true, true, true, true, true, true, true, true, true, true, true, false] HT_.out ?_
    refine last_ (i := 29) (N := none) #[true, true, true, true, true, true, true, true, true, true, true, true, true, true, true, true, true, true, true, true, true, true, true, true, true, true, true, true, true, true] rfl rfl (one_of HT_.out (by kernel_rfl)) (by decide) (fun K hK => ?_)
    refine skip_ (w1 := ?_) (by rfl) rfl ?_ ?_
    rotate_left
    ·go_simp
     rfl
    refine hK.out _ _ ?_
    clear hK K
    refine done_ (done_of HT_.out (by kernel_rfl)) ?_
    have n0_ : Aside0 (Kd.R (Kd.int .i64) 2 (w86.setCell ⟨go69, (t468 : Int).toNat, none⟩ (.int .i64 t482)) w.heap.size (fun k_ => some k_ ≠ (.slice Ao85 y479.length co85 : Value).ownBlock) (.slice (some ⟨go69, 0, none⟩) t441.length co76) y485) := ⟨zPM HQ87.out (fun _ hk => hk.2)⟩
    have n1_ : Aside0 (Kd.R (Kd.int .i64) 2 (w86.setCell ⟨go69, (t468 : Int).toNat, none⟩ (.int .i64 t482)) w.heap.size (fun k_ => some k_ ≠ (.slice (some ⟨go69, 0, none⟩) t441.length co76 : Value).ownBlock) (.slice Ao85 y479.length co85) y479) := ⟨by (with_reducible repeat (first | apply zF | apply zG | apply zH)); exact kA (kY (p := ⟨go69, (t468 : Int).toNat, none⟩) (kA HO481.out (fun k_ hk => (⟨hk, fun e_ => hk.2 (by rw [e_]; rfl)⟩ : _ ∧ k_ ≠ go69))) (fun _ hk => hk.2) (.int .i64 t482)) (fun _ hk => hk.1.2)⟩
    have n2_ : Aside0 ((w86.setCell ⟨go69, (t468 : Int).toNat, none⟩ (.int .i64 t482)).heap[gb439]? = some (.cells #[.int .i64 0, .slice none 0 0] 29 (0, 0))) := ⟨by (with_reducible repeat (first | refine zJ ?_ _ | refine zK ?_ | refine zI ?_ _)); refine blk_far ?_ (by have h_ := Kd.R_ne HO443.out BK439.out (by decide); intro e_; exact h_ (by rw [e_]; rfl)) _; (with_reducible repeat (first | refine zJ ?_ _ | refine zK ?_ | refine zI ?_ _)); exact BK439.out⟩
    have n3_ : Aside0 ((w86.setCell ⟨go69, (t468 : Int).toNat, none⟩ (.int .i64 t482)).heap[gb446]? = some (.cells #[.int .i64 t440, .slice (some ⟨go69, 0, none⟩) t441.length co76] 29 (0, 0))) := ⟨by (with_reducible repeat (first | refine zJ ?_ _ | refine zK ?_ | refine zI ?_ _)); refine blk_far ?_ (by have h_ := Kd.R_ne HO443.out BK446.out (by decide); intro e_; exact h_ (by rw [e_]; rfl)) _; (with_reducible repeat (first | refine zJ ?_ _ | refine zK ?_ | refine zI ?_ _)); exact BK446.out⟩
    have n4_ : Aside0 (Z140 w0 (w86.setCell ⟨go69, (t468 : Int).toNat, none⟩ (.int .i64 t482)) g s0_0 t483 t484) := ⟨by repeat (first | (with_reducible first | exact HI0.out | apply Z140.alloc | apply Z140.drewN | apply Z140.drew | apply Z140.set_1 | apply Z140.set_2 | refine Z140.far ?_ HN0_go69.out _ | refine Z140.far ?_ NB0_439.out _ | refine Z140.far ?_ NB0_446.out _) | exact HI0.out)⟩
    have n5_ : Aside0 (KeepBut w (w86.setCell ⟨go69, (t468 : Int).toNat, none⟩ (.int .i64 t482)) g none) := ⟨by repeat (first | (with_reducible first | exact HK.out | apply KeepBut.set_ | apply keep_drewN | apply keep_drew | apply keep_alloc | refine keep_far ?_ GB69.out _ | refine keep_far ?_ GW439.out _ | refine keep_far ?_ GW446.out _) | exact HK.out)⟩
    have n6_ : Aside0 (Below w0.heap.size w0 (w86.setCell ⟨go69, (t468 : Int).toNat, none⟩ (.int .i64 t482))) := ⟨by repeat (first | (with_reducible first | exact HB.out | apply zB | apply zC | apply zD | refine zE ?_ (Nat.le_trans HL.out GB69.out) | refine zE ?_ (Z140.ge HI0.out) | refine zE ?_ GE439.out | refine zE ?_ GE446.out) | exact HB.out)⟩
    (try clear HO443)
    (try clear HO481)
    (try clear BK439)
    (try clear BK446)
    (try clear HI0)
    (try clear HK)
    (try clear HB)
    generalize (w86.setCell ⟨go69, (t468 : Int).toNat, none⟩ (.int .i64 t482)) = w88 at n0_ n1_ n2_ n3_ n4_ n5_ n6_ ⊢
    have HO443 := n0_
    have HO481 := n1_
    have BK439 := n2_
    have BK446 := n3_
    have HI0 := n4_
    have HK := n5_
    have HB := n6_
    clear n0_ n1_ n2_ n3_ n4_ n5_ n6_
    obtain ⟨hcz89_0, hcz89_1, hfz89_0, hfz89_1⟩ := zB3 BK446.out
    have hnb90 := NB439_0.out
    have hnc90 := NB0_439.out
    obtain ⟨hcz91_0, hcz91_1, hfz91_0, hfz91_1⟩ := zB3 BK439.out
    try go_wp2
    refine bodyPost_ret (results_cell_row rfl _ _ gb439 29 #[.int .i64 t440, .slice (some ⟨go69, 0, none⟩) t441.length co76] (0, 0) _ rfl (zRP BK439.out) Tryd.underlying29 rfl (by kernel_rfl)) rfl ?_
    exact ⟨_, zr, by (with_reducible repeat (first | apply zF | apply zG | apply zH)); exact kA (kY (p := ⟨gb439, 1, none⟩) (kY (p := ⟨gb439, 0, none⟩) (kD HO443.out BK439.out (by decide)) (fun _ hk => hk.2) (.int .i64 t440)) (fun _ hk => hk.2) (.slice (some ⟨go69, 0, none⟩) t441.length co76)) (fun _ hk => trivial), by repeat (first | (with_reducible first | exact HI0.out | apply Z140.alloc | apply Z140.drewN | apply Z140.drew | apply Z140.set_1 | apply Z140.set_2 | refine Z140.far ?_ NB0_439.out _ | refine Z140.far ?_ NB0_446.out _) | exact HI0.out), zW HB.out (Z140.ge HI0.out) GE439.out GE446.out, by repeat (first | (with_reducible first | exact HK.out | apply KeepBut.set_ | apply keep_drewN | apply keep_drew | apply keep_alloc | refine keep_far ?_ GW439.out _ | refine keep_far ?_ GW446.out _) | exact HK.out)⟩
   rw [if_neg c63] at H
   exact absurd H (by simp)
  rw [if_neg c62] at H
  exact absurd H (by simp)
 rw [if_neg c60] at H
 have c60b0 : decide (0 < t440) = false := decide_eq_false c60
 clear c60
 simp only [Option.some.injEq, Prod.mk.injEq] at H
 obtain ⟨rfl, rfl, rfl, rfl⟩ := H
 go_enter Tryd.func131, Tryd.ntmps131
 go_wp2_with (first | (refine zBE 4 #[.int .i64 0, .slice none 0 0] 29 ?_; intro gb439 hg w92 hbox hb; replace HB := zA (kQ (zT HB.out (Z140.ge HI0.out)) hb); have BK439 := zA (hbox); have GW439 := zA (zB6 hg (kX (w := w) (g := g) (row := none) (yA HK.out)) : w.heap.size ≤ gb439); have GE439 := zA ((Nat.le_trans HW0.out (by rw [hg]; exact (kX (w := w) (g := g) (row := none) (yA HK.out)) : w.heap.size ≤ gb439) : w0.heap.size ≤ gb439)); replace HK := zA (kT (yA HK.out) (kU hb g none) (.inl rfl)); have NB0_439 := zA (zB7 hg (Z140.lt (show Z140 w0 _ g s0_0 s0_1 s0_2 from Z140.uA HI0.out)) : g ≠ gb439); have NB439_0 := zA (zB8 hg (Z140.lt (show Z140 w0 _ g s0_0 s0_1 s0_2 from Z140.uA HI0.out)) : gb439 ≠ g); replace HI0 := zA (Z140.below (Z140.uA HI0.out) hb); clear hb hbox hg) | (refine zO (some 9) Tryd.func172 #[.pointer (some ⟨g, 0, none⟩), .int .i64 a1] ?_; (with_reducible refine (spec_l02Draw.calls k g s0_0 s0_1 s0_2 a1 t440 t441 t444 t445 w0 _ ?side1 ?side2 A3.out).mono ?_); (case side1 => exact Z140.uB HI0.out NB0_439.out); (case side2 => exact zV HB.out (Z140.ge HI0.out) GE439.out); rintro e w93 ⟨v442, rfl, ho0, hi, hb, hk⟩; refine ⟨_, rfl, ?_⟩; replace BK439 := zA (zB2 hk BK439.out NB439_0.out); have HO443 := zA (kI ho0 (kX (w := w) (g := g) (row := none) (yB HK.out GW439.out))); replace HK := zA (kT (yB HK.out GW439.out) hk (.inl rfl)); replace HB := zA (hb); replace HI0 := zA (hi); (try clear hb); (try clear hk); (try clear hi); (try clear ho0)) | (refine zBE 5 #[.int .i64 0, .slice none 0 0] 29 ?_; intro gb446 hg w94 hbox hb; replace HO443 := zA (kL (zP HO443.out) hb); replace HB := zA (kQ (zV HB.out (Z140.ge HI0.out) GE439.out) hb); have BK446 := zA (hbox); have GW446 := zA (zB6 hg (kX (w := w) (g := g) (row := none) (yB HK.out GW439.out)) : w.heap.size ≤ gb446); have GE446 := zA ((Nat.le_trans HW0.out (by rw [hg]; exact (kX (w := w) (g := g) (row := none) (yB HK.out GW439.out)) : w.heap.size ≤ gb446) : w0.heap.size ≤ gb446)); replace HK := zA (kT (yB HK.out GW439.out) (kU hb g none) (.inl rfl)); have NB439_446 := zA (zB4 hg BK439.out : gb439 ≠ gb446); have NB446_439 := zA (zB5 hg BK439.out : gb446 ≠ gb439); replace BK439 := zA (zB1 BK439.out hb); have NB0_446 := zA (zB7 hg (Z140.lt (show Z140 w0 _ g s0_0 t444 t445 from Z140.uB HI0.out NB0_439.out)) : g ≠ gb446); have NB446_0 := zA (zB8 hg (Z140.lt (show Z140 w0 _ g s0_0 t444 t445 from Z140.uB HI0.out NB0_439.out)) : gb446 ≠ g); replace HI0 := zA (Z140.below (Z140.uB HI0.out NB0_439.out) hb); clear hb hbox hg; have hnb95 := NB446_439.out; have hnc95 := NB439_446.out; have hnb96 := NB446_0.out; have hnc96 := NB0_446.out; obtain ⟨hcz97_0, hcz97_1, hfz97_0, hfz97_1⟩ := zB3 BK446.out; obtain ⟨Ao98, co98, eo98⟩ := kM HO443.out; subst eo98) | (refine zO (some 11) Tryd.func128 #[.pointer (some ⟨g, 0, none⟩), .int .i64 14] ?_; (with_reducible refine (spec_l01Next.calls g s0_0 t444 t445 14 t447 t448 t449 w0 _ ?side1 ?side2 A4.out).mono ?_); (case side1 => exact Z140.uC HI0.out NB0_439.out NB0_446.out); (case side2 => exact zW HB.out (Z140.ge HI0.out) GE439.out GE446.out); rintro e w99 ⟨rfl, hi, hb, hk⟩; refine ⟨_, rfl, ?_⟩; replace BK439 := zA (KeepBut.blk hk (g' := gb439) (o := .cells #[.int .i64 0, .slice none 0 0] 29 (0, 0)) (zBG BK439.out NB439_446.out NB439_446.out) NB439_0.out (by simp)); replace HO443 := zA (kA (Kd.R_keep (Z140.apart (show Z140 w0 _ g s0_0 t444 t445 from Z140.uC HI0.out NB0_439.out NB0_446.out) (zP (zFG HO443.out BK446.out (.int .i64 t440) (.slice Ao98 t441.length co98))) (by decide)) hk (fun _ h => h.2)) (fun _ h => h.1)); replace BK446 := zA (KeepBut.blk hk (g' := gb446) (o := .cells #[.int .i64 t440, .slice Ao98 t441.length co98] 29 (0, 0)) (zRP BK446.out) NB446_0.out (by simp)); replace HK := zA (kT (yC HK.out GW439.out GW446.out) hk (.inl rfl)); replace HB := zA (hb); replace HI0 := zA (hi); (try clear hb); (try clear hk); (try clear hi)) | (refine zO (some 15) Tryd.func128 #[.pointer (some ⟨g, 0, none⟩), .int .i64 4] ?_; (with_reducible refine (spec_l01Next.calls g s0_0 t448 t449 4 t450 t451 t452 w0 _ ?side1 ?side2 A17.out).mono ?_); (case side1 => exact Z140.uC HI0.out NB0_439.out NB0_446.out); (case side2 => exact zW HB.out (Z140.ge HI0.out) GE439.out GE446.out); rintro e w100 ⟨rfl, hi, hb, hk⟩; refine ⟨_, rfl, ?_⟩; replace BK439 := zA (zB2 hk BK439.out NB439_0.out); replace HO443 := zA (zB9 (Z140.apart (show Z140 w0 _ g s0_0 t448 t449 from Z140.uC HI0.out NB0_439.out NB0_446.out) (zP HO443.out) (by decide)) hk); replace BK446 := zA (zB2 hk BK446.out NB446_0.out); replace HK := zA (kT (yC HK.out GW439.out GW446.out) hk (.inl rfl)); replace HB := zA (hb); replace HI0 := zA (hi); (try clear hb); (try clear hk); (try clear hi); obtain ⟨hcz101_0, hcz101_1, hfz101_0, hfz101_1⟩ := zB3 BK446.out; have hnb102 := NB439_0.out; have hnc102 := NB0_439.out; obtain ⟨hcz103_0, hcz103_1, hfz103_0, hfz103_1⟩ := zB3 BK439.out))
 refine bodyPost_ret (results_cell_row rfl _ _ gb439 29 #[.int .i64 t440, .slice Ao98 t441.length co98] (0, 0) _ rfl (zRP BK439.out) Tryd.underlying29 rfl (by kernel_rfl)) rfl ?_
 exact ⟨_, zr, by (with_reducible repeat (first | apply zF | apply zG | apply zH)); exact kA (kY (p := ⟨gb439, 1, none⟩) (kY (p := ⟨gb439, 0, none⟩) (kD HO443.out BK439.out (by decide)) (fun _ hk => hk.2) (.int .i64 t440)) (fun _ hk => hk.2) (.slice Ao98 t441.length co98)) (fun _ hk => trivial), by repeat (first | (with_reducible first | exact HI0.out | apply Z140.alloc | apply Z140.drewN | apply Z140.drew | apply Z140.set_1 | apply Z140.set_2 | refine Z140.far ?_ NB0_439.out _ | refine Z140.far ?_ NB0_446.out _) | exact HI0.out), zW HB.out (Z140.ge HI0.out) GE439.out GE446.out, by repeat (first | (with_reducible first | exact HK.out | apply KeepBut.set_ | apply keep_drewN | apply keep_drew | apply keep_alloc | refine keep_far ?_ GW439.out _ | refine keep_far ?_ GW446.out _) | exact HK.out)⟩

end Go.Proofs.YthgapkbkhoeleaaDoor.PAll
