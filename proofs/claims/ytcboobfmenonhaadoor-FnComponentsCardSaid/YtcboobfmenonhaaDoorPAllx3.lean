-- Printed by a program of the session (wip/tools/pgen.py) out of the translation. Not trusted: Lean checks it.
import Derived.Test.YtcboobfmenonhaaDoorPAllx0
import Derived.Test.YtcboobfmenonhaaDoorPAllx2
namespace Go.Proofs.YtcboobfmenonhaaDoor.PAll
open Go.RowKit Go.Proofs.YtcboobfmenonhaaDoor.T Go.Proofs.YtcboobfmenonhaaDoorW.PrintWords Go.Proofs.YtcboobfmenonhaaDoorW.PrintLast Go.Proofs.YtcboobfmenonhaaDoorW.PrintMore
attribute [local go_sem] max2_int min2_int max_two min_two max_three min_three max_four min_four   -- for this text's walks alone
set_option linter.unusedVariables false
set_option linter.unusedSimpArgs false

/-! ### spec_l02Spoil: function 45 -/
def spec_l02Spoil.f (k : Nat) (s0_0 : List Int) (s0_1 : Int) (s0_2 : Int) (a1 : Int) : Option (Int × List Int × Int × Int) := (spec_l02Draw.f k s0_0 s0_1 s0_2 a1).bind fun bt256 => ((spec_l01Next.f s0_0 bt256.2.2.1 bt256.2.2.2 14).bind fun bt263 => (if bt263.1 > 0 then (some (bt256.1, bt256.2.1, bt263.2.1, bt263.2.2)) else ((spec_l01Next.f s0_0 bt263.2.1 bt263.2.2 4).bind fun bt266 => (if bt266.1 = 0 then ((spec_l01Pick.f s0_0 bt266.2.1 bt266.2.2 (([(-1), 9, wrap64 (bt256.1 + 1)] : List Int))).bind fun bt272 => (some (bt272.1, bt256.2.1, bt272.2.1, bt272.2.2))) else (if bt266.1 = 1 then ((spec_l01Pick.f s0_0 bt266.2.1 bt266.2.2 (([0, 1, 255] : List Int))).bind fun bt278 => (if bt256.2.1.length < 17592186044416 then (some (bt256.1, (bt256.2.1 ++ [bt278.1]), bt278.2.1, bt278.2.2)) else (none))) else (if bt256.1 > 0 then ((spec_l01Next.f s0_0 bt266.2.1 bt266.2.2 bt256.1).bind fun bt284 => (if 0 ≤ bt284.1 then (if bt284.1 < (bt256.2.1.length : Int) then ((spec_l01One.f bt284.1).bind fun t288 => ((spec_l01One.f bt256.1).bind fun t290 => ((spec_l01One.f bt256.1).bind fun t291 => ((spec_l01Next.f s0_0 bt284.2.1 bt284.2.2 t291).bind fun bt292 => ((spec_l01Pick.f s0_0 bt292.2.1 bt292.2.2 (([wrap64 ((rd bt256.2.1 bt284.1) - t288), Go.bits .or .i64 (rd bt256.2.1 bt284.1) t290, bt292.1, (-1)] : List Int))).bind fun bt298 => (some (bt256.1, (bt256.2.1.set (bt284.1 : Int).toNat bt298.1), bt298.2.1, bt298.2.2))))))) else (none)) else (none))) else (some (bt256.1, bt256.2.1, bt266.2.1, bt266.2.2))))))))

def spec_l02Spoil.T7 : Bool × List (List Nat × List Nat) := (true, [([], []), ([0], [0]), ([], []), ([], []), ([], []), ([4], [4]), ([], []), ([5, 6], [5, 6]), ([7], [7]), ([], []), ([9], [9]), ([8, 10], [8, 10]), ([], []), ([12], [12]), ([], []), ([13, 14], [13, 14]), ([15], [15]), ([], []), ([17], [17]), ([18, 10], [18]), ([16, 19], [16, 19]), ([], []), ([], []), ([22], [22]), ([23, 19], [23]), ([21, 24, 24], [21, 24]), ([11, 20, 25], [11, 20, 25]), ([3, 26, 25], [3, 26]), ([1, 2, 0, 1, 2, 3, 4, 5, 6, 7, 8, 9, 10, 11, 12, 13, 14, 15, 16, 17, 18, 19, 20, 21, 22, 23, 24, 25, 26, 27], [1, 2]), ([28, 27, 27, 0, 1, 2, 3, 4, 5, 6, 7, 8, 9, 10, 11, 12, 13, 14, 15, 16, 17, 18, 19, 20, 21, 22, 23, 24, 25, 26, 27], [27, 28])])
def spec_l02Spoil.B7 : List Nat := [0, 1, 0, 0, 0, 16, 0, 112, 240, 0, 512, 2032, 0, 4096, 0, 28672, 61440, 0, 131072, 394752, 1046016, 0, 0, 4194304, 13501952, 32376320, 67108848, 134217720, 268435455, 536870911]
theorem spec_l02Spoil.tab7 : rtab .any (opsOf Tryd.f45 7) = spec_l02Spoil.T7 := by kernel_rfl
theorem spec_l02Spoil.bits7 : waitsOk spec_l02Spoil.T7.2 spec_l02Spoil.B7 = true := by kernel_rfl
def spec_l02Spoil.T11 : Bool × List (List Nat × List Nat) := (true, [([], []), ([0], [0]), ([], []), ([], []), ([2, 3], [2, 3]), ([4], [4]), ([1, 5, 4], [1, 5]), ([0, 1, 2, 3, 4, 5, 6], []), ([7, 6, 6, 0, 1, 2, 3, 4, 5, 6], [6, 7])])
def spec_l02Spoil.B11 : List Nat := [0, 1, 0, 0, 12, 28, 63, 127, 255]
theorem spec_l02Spoil.tab11 : rtab .any (opsOf Tryd.f45 11) = spec_l02Spoil.T11 := by kernel_rfl
theorem spec_l02Spoil.bits11 : waitsOk spec_l02Spoil.T11.2 spec_l02Spoil.B11 = true := by kernel_rfl
set_option maxHeartbeats 8000000 in
set_option maxRecDepth 100000 in
theorem spec_l02Spoil.calls (k : Nat) (g : Nat) (s0_0 : List Int) (s0_1 : Int) (s0_2 : Int) (a1 : Int) (r1 : Int) (r2 : List Int) (r3 : Int) (r4 : Int) (w0 w : World) (hI : Z98 w0 w g s0_0 s0_1 s0_2) (hB : Below w0.heap.size w0 w) (h : spec_l02Spoil.f k s0_0 s0_1 s0_2 a1 = some (r1, r2, r3, r4)) :
  Calls Tryd.prog 45 #[.pointer (some ⟨g, 0, none⟩), .int .i64 a1] w fun e w' => ∃ v1_ : Value, e = .returned (.agg #[.int .i64 r1, v1_]) ∧ Kd.R (Kd.int .i64) 2 w' w.heap.size (fun _ => True) v1_ r2 ∧ Z98 w0 w' g s0_0 r3 r4 ∧ Below w0.heap.size w0 w' ∧ KeepBut w w' g none := by
 have hu26 := Tryd.underlying26
 have HI0 := zA hI
 have HK := zA (KeepBut.refl w g none)
 have HL := zA hB.size
 clear hI
 have HW0 := zA hB.size
 have HB := zA hB
 clear hB
 have H := h
 unfold spec_l02Spoil.f at H
 clear h
 obtain ⟨⟨t256, t257, t260, t261⟩, A3, H⟩ := zb H
 try dsimp only at H
 obtain ⟨⟨t263, t264, t265⟩, A4, H⟩ := zb H
 try dsimp only at H
 by_cases c5 : t263 > 0
 ·rw [if_pos c5] at H
  have c5b0 : decide (0 < t263) = true := decide_eq_true c5
  clear c5
  simp only [Option.some.injEq, Prod.mk.injEq] at H
  obtain ⟨rfl, rfl, rfl, rfl⟩ := H
  go_enter Tryd.func45, Tryd.ntmps45
  go_wp2_with (first | (refine zBE 4 #[.int .i64 0, .slice none 0 0] 26 ?_; intro gb255 hg w6 hbox hb; replace HB := zA (kQ (zT HB.out (Z98.ge HI0.out)) hb); have BK255 := zA (hbox); have GW255 := zA (zB6 hg (kX (w := w) (g := g) (row := none) (yA HK.out)) : w.heap.size ≤ gb255); have GE255 := zA ((Nat.le_trans HW0.out (by rw [hg]; exact (kX (w := w) (g := g) (row := none) (yA HK.out)) : w.heap.size ≤ gb255) : w0.heap.size ≤ gb255)); replace HK := zA (kT (yA HK.out) (kU hb g none) (.inl rfl)); have NB0_255 := zA (zB7 hg (Z98.lt (show Z98 w0 _ g s0_0 s0_1 s0_2 from Z98.uA HI0.out)) : g ≠ gb255); have NB255_0 := zA (zB8 hg (Z98.lt (show Z98 w0 _ g s0_0 s0_1 s0_2 from Z98.uA HI0.out)) : gb255 ≠ g); replace HI0 := zA (Z98.below (Z98.uA HI0.out) hb); clear hb hbox hg) | (refine zO (some 9) Tryd.func83 #[.pointer (some ⟨g, 0, none⟩), .int .i64 a1] ?_; (with_reducible refine (spec_l02Draw.calls k g s0_0 s0_1 s0_2 a1 t256 t257 t260 t261 w0 _ ?side1 ?side2 A3.out).mono ?_); (case side1 => exact Z98.uB HI0.out NB0_255.out); (case side2 => exact zV HB.out (Z98.ge HI0.out) GE255.out); rintro e w7 ⟨v258, rfl, ho0, hi, hb, hk⟩; refine ⟨_, rfl, ?_⟩; replace BK255 := zA (zB2 hk BK255.out NB255_0.out); have HO259 := zA (kI ho0 (kX (w := w) (g := g) (row := none) (yB HK.out GW255.out))); replace HK := zA (kT (yB HK.out GW255.out) hk (.inl rfl)); replace HB := zA (hb); replace HI0 := zA (hi); (try clear hb); (try clear hk); (try clear hi); (try clear ho0)) | (refine zBE 5 #[.int .i64 0, .slice none 0 0] 26 ?_; intro gb262 hg w8 hbox hb; replace HO259 := zA (kL (zP HO259.out) hb); replace HB := zA (kQ (zV HB.out (Z98.ge HI0.out) GE255.out) hb); have BK262 := zA (hbox); have GW262 := zA (zB6 hg (kX (w := w) (g := g) (row := none) (yB HK.out GW255.out)) : w.heap.size ≤ gb262); have GE262 := zA ((Nat.le_trans HW0.out (by rw [hg]; exact (kX (w := w) (g := g) (row := none) (yB HK.out GW255.out)) : w.heap.size ≤ gb262) : w0.heap.size ≤ gb262)); replace HK := zA (kT (yB HK.out GW255.out) (kU hb g none) (.inl rfl)); have NB255_262 := zA (zB4 hg BK255.out : gb255 ≠ gb262); have NB262_255 := zA (zB5 hg BK255.out : gb262 ≠ gb255); replace BK255 := zA (zB1 BK255.out hb); have NB0_262 := zA (zB7 hg (Z98.lt (show Z98 w0 _ g s0_0 t260 t261 from Z98.uB HI0.out NB0_255.out)) : g ≠ gb262); have NB262_0 := zA (zB8 hg (Z98.lt (show Z98 w0 _ g s0_0 t260 t261 from Z98.uB HI0.out NB0_255.out)) : gb262 ≠ g); replace HI0 := zA (Z98.below (Z98.uB HI0.out NB0_255.out) hb); clear hb hbox hg; have hnb9 := NB262_255.out; have hnc9 := NB255_262.out; have hnb10 := NB262_0.out; have hnc10 := NB0_262.out; obtain ⟨hcz11_0, hcz11_1, hfz11_0, hfz11_1⟩ := zB3 BK262.out; obtain ⟨Ao12, co12, eo12⟩ := kM HO259.out; subst eo12) | (refine zO (some 11) Tryd.func51 #[.pointer (some ⟨g, 0, none⟩), .int .i64 14] ?_; (with_reducible refine (spec_l01Next.calls g s0_0 t260 t261 14 t263 t264 t265 w0 _ ?side1 ?side2 A4.out).mono ?_); (case side1 => exact Z98.uC HI0.out NB0_255.out NB0_262.out); (case side2 => exact zW HB.out (Z98.ge HI0.out) GE255.out GE262.out); rintro e w13 ⟨rfl, hi, hb, hk⟩; refine ⟨_, rfl, ?_⟩; replace BK255 := zA (KeepBut.blk hk (g' := gb255) (o := .cells #[.int .i64 0, .slice none 0 0] 26 (0, 0)) (zBG BK255.out NB255_262.out NB255_262.out) NB255_0.out (by simp)); replace HO259 := zA (kA (Kd.R_keep (Z98.apart (show Z98 w0 _ g s0_0 t260 t261 from Z98.uC HI0.out NB0_255.out NB0_262.out) (zP (zFG HO259.out BK262.out (.int .i64 t256) (.slice Ao12 t257.length co12))) (by decide)) hk (fun _ h => h.2)) (fun _ h => h.1)); replace BK262 := zA (KeepBut.blk hk (g' := gb262) (o := .cells #[.int .i64 t256, .slice Ao12 t257.length co12] 26 (0, 0)) (zRP BK262.out) NB262_0.out (by simp)); replace HK := zA (kT (yC HK.out GW255.out GW262.out) hk (.inl rfl)); replace HB := zA (hb); replace HI0 := zA (hi); (try clear hb); (try clear hk); (try clear hi); obtain ⟨hcz14_0, hcz14_1, hfz14_0, hfz14_1⟩ := zB3 BK262.out; have hnb15 := NB255_0.out; have hnc15 := NB0_255.out; obtain ⟨hcz16_0, hcz16_1, hfz16_0, hfz16_1⟩ := zB3 BK255.out))
  refine bodyPost_ret (results_cell_row rfl _ _ gb255 26 #[.int .i64 t256, .slice Ao12 t257.length co12] (0, 0) _ rfl (zRP BK255.out) Tryd.underlying26 rfl (by kernel_rfl)) rfl ?_
  exact ⟨_, zr, by (with_reducible repeat (first | apply zF | apply zG | apply zH)); exact kA (kY (p := ⟨gb255, 1, none⟩) (kY (p := ⟨gb255, 0, none⟩) (kD HO259.out BK255.out (by decide)) (fun _ hk => hk.2) (.int .i64 t256)) (fun _ hk => hk.2) (.slice Ao12 t257.length co12)) (fun _ hk => trivial), by repeat (first | (with_reducible first | exact HI0.out | apply Z98.alloc | apply Z98.drewN | apply Z98.drew | apply Z98.set_1 | apply Z98.set_2 | refine Z98.far ?_ NB0_255.out _ | refine Z98.far ?_ NB0_262.out _) | exact HI0.out), zW HB.out (Z98.ge HI0.out) GE255.out GE262.out, by repeat (first | (with_reducible first | exact HK.out | apply KeepBut.set_ | apply keep_drewN | apply keep_drew | apply keep_alloc | refine keep_far ?_ GW255.out _ | refine keep_far ?_ GW262.out _) | exact HK.out)⟩
 rw [if_neg c5] at H
 have c5b0 : decide (0 < t263) = false := decide_eq_false c5
 clear c5
 obtain ⟨⟨t266, t267, t268⟩, A17, H⟩ := zb H
 try dsimp only at H
 by_cases c18 : t266 = 0
 ·rw [if_pos c18] at H
  obtain ⟨c18b0, c18b1⟩ := zT1 c18
  clear c18
  obtain ⟨y269, hy269⟩ : ∃ y_ : List Int, y_ = (([(-1), 9, wrap64 (t256 + 1)] : List Int)) := ⟨_, rfl⟩
  replace H : ((spec_l01Pick.f s0_0 t267 t268 y269).bind fun bt272 => (some (bt272.1, t257, bt272.2.1, bt272.2.2))) = some (r1, r2, r3, r4) := zy hy269 H
  have Ny269 := zA hy269
  clear hy269
  obtain ⟨⟨t272, t273, t274⟩, A19, H⟩ := zb H
  try dsimp only at H
  simp only [Option.some.injEq, Prod.mk.injEq] at H
  obtain ⟨rfl, rfl, rfl, rfl⟩ := H
  go_enter Tryd.func45, Tryd.ntmps45
  go_wp2_with (first | (refine zBE 4 #[.int .i64 0, .slice none 0 0] 26 ?_; intro gb255 hg w20 hbox hb; replace HB := zA (kQ (zT HB.out (Z98.ge HI0.out)) hb); have BK255 := zA (hbox); have GW255 := zA (zB6 hg (kX (w := w) (g := g) (row := none) (yA HK.out)) : w.heap.size ≤ gb255); have GE255 := zA ((Nat.le_trans HW0.out (by rw [hg]; exact (kX (w := w) (g := g) (row := none) (yA HK.out)) : w.heap.size ≤ gb255) : w0.heap.size ≤ gb255)); replace HK := zA (kT (yA HK.out) (kU hb g none) (.inl rfl)); have NB0_255 := zA (zB7 hg (Z98.lt (show Z98 w0 _ g s0_0 s0_1 s0_2 from Z98.uA HI0.out)) : g ≠ gb255); have NB255_0 := zA (zB8 hg (Z98.lt (show Z98 w0 _ g s0_0 s0_1 s0_2 from Z98.uA HI0.out)) : gb255 ≠ g); replace HI0 := zA (Z98.below (Z98.uA HI0.out) hb); clear hb hbox hg) | (refine zO (some 9) Tryd.func83 #[.pointer (some ⟨g, 0, none⟩), .int .i64 a1] ?_; (with_reducible refine (spec_l02Draw.calls k g s0_0 s0_1 s0_2 a1 t256 t257 t260 t261 w0 _ ?side1 ?side2 A3.out).mono ?_); (case side1 => exact Z98.uB HI0.out NB0_255.out); (case side2 => exact zV HB.out (Z98.ge HI0.out) GE255.out); rintro e w21 ⟨v258, rfl, ho0, hi, hb, hk⟩; refine ⟨_, rfl, ?_⟩; replace BK255 := zA (zB2 hk BK255.out NB255_0.out); have HO259 := zA (kI ho0 (kX (w := w) (g := g) (row := none) (yB HK.out GW255.out))); replace HK := zA (kT (yB HK.out GW255.out) hk (.inl rfl)); replace HB := zA (hb); replace HI0 := zA (hi); (try clear hb); (try clear hk); (try clear hi); (try clear ho0)) | (refine zBE 5 #[.int .i64 0, .slice none 0 0] 26 ?_; intro gb262 hg w22 hbox hb; replace HO259 := zA (kL (zP HO259.out) hb); replace HB := zA (kQ (zV HB.out (Z98.ge HI0.out) GE255.out) hb); have BK262 := zA (hbox); have GW262 := zA (zB6 hg (kX (w := w) (g := g) (row := none) (yB HK.out GW255.out)) : w.heap.size ≤ gb262); have GE262 := zA ((Nat.le_trans HW0.out (by rw [hg]; exact (kX (w := w) (g := g) (row := none) (yB HK.out GW255.out)) : w.heap.size ≤ gb262) : w0.heap.size ≤ gb262)); replace HK := zA (kT (yB HK.out GW255.out) (kU hb g none) (.inl rfl)); have NB255_262 := zA (zB4 hg BK255.out : gb255 ≠ gb262); have NB262_255 := zA (zB5 hg BK255.out : gb262 ≠ gb255); replace BK255 := zA (zB1 BK255.out hb); have NB0_262 := zA (zB7 hg (Z98.lt (show Z98 w0 _ g s0_0 t260 t261 from Z98.uB HI0.out NB0_255.out)) : g ≠ gb262); have NB262_0 := zA (zB8 hg (Z98.lt (show Z98 w0 _ g s0_0 t260 t261 from Z98.uB HI0.out NB0_255.out)) : gb262 ≠ g); replace HI0 := zA (Z98.below (Z98.uB HI0.out NB0_255.out) hb); clear hb hbox hg; have hnb23 := NB262_255.out; have hnc23 := NB255_262.out; have hnb24 := NB262_0.out; have hnc24 := NB0_262.out; obtain ⟨hcz25_0, hcz25_1, hfz25_0, hfz25_1⟩ := zB3 BK262.out; obtain ⟨Ao26, co26, eo26⟩ := kM HO259.out; subst eo26) | (refine zO (some 11) Tryd.func51 #[.pointer (some ⟨g, 0, none⟩), .int .i64 14] ?_; (with_reducible refine (spec_l01Next.calls g s0_0 t260 t261 14 t263 t264 t265 w0 _ ?side1 ?side2 A4.out).mono ?_); (case side1 => exact Z98.uC HI0.out NB0_255.out NB0_262.out); (case side2 => exact zW HB.out (Z98.ge HI0.out) GE255.out GE262.out); rintro e w27 ⟨rfl, hi, hb, hk⟩; refine ⟨_, rfl, ?_⟩; replace BK255 := zA (KeepBut.blk hk (g' := gb255) (o := .cells #[.int .i64 0, .slice none 0 0] 26 (0, 0)) (zBG BK255.out NB255_262.out NB255_262.out) NB255_0.out (by simp)); replace HO259 := zA (kA (Kd.R_keep (Z98.apart (show Z98 w0 _ g s0_0 t260 t261 from Z98.uC HI0.out NB0_255.out NB0_262.out) (zP (zFG HO259.out BK262.out (.int .i64 t256) (.slice Ao26 t257.length co26))) (by decide)) hk (fun _ h => h.2)) (fun _ h => h.1)); replace BK262 := zA (KeepBut.blk hk (g' := gb262) (o := .cells #[.int .i64 t256, .slice Ao26 t257.length co26] 26 (0, 0)) (zRP BK262.out) NB262_0.out (by simp)); replace HK := zA (kT (yC HK.out GW255.out GW262.out) hk (.inl rfl)); replace HB := zA (hb); replace HI0 := zA (hi); (try clear hb); (try clear hk); (try clear hi)) | (refine zO (some 15) Tryd.func51 #[.pointer (some ⟨g, 0, none⟩), .int .i64 4] ?_; (with_reducible refine (spec_l01Next.calls g s0_0 t264 t265 4 t266 t267 t268 w0 _ ?side1 ?side2 A17.out).mono ?_); (case side1 => exact Z98.uC HI0.out NB0_255.out NB0_262.out); (case side2 => exact zW HB.out (Z98.ge HI0.out) GE255.out GE262.out); rintro e w28 ⟨rfl, hi, hb, hk⟩; refine ⟨_, rfl, ?_⟩; replace BK255 := zA (zB2 hk BK255.out NB255_0.out); replace HO259 := zA (zB9 (Z98.apart (show Z98 w0 _ g s0_0 t264 t265 from Z98.uC HI0.out NB0_255.out NB0_262.out) (zP HO259.out) (by decide)) hk); replace BK262 := zA (zB2 hk BK262.out NB262_0.out); replace HK := zA (kT (yC HK.out GW255.out GW262.out) hk (.inl rfl)); replace HB := zA (hb); replace HI0 := zA (hi); (try clear hb); (try clear hk); (try clear hi); obtain ⟨hcz29_0, hcz29_1, hfz29_0, hfz29_1⟩ := zB3 BK262.out) | ((with_reducible refine kS (N := 58) rfl ?_); refine Kd.R_lit (Kd.int .i64) _ 2 ?hg (N := 58) ?hd (xs := ([(-1), 9, wrap64 (t256 + 1)] : List Int)) (inner := [.int .i64 (-1), .int .i64 9, .int .i64 (wrap64 (t256 + 1))]) (ok := fun _ => True) (okp := fun _ => True) ?hr ?hp (fun _ hk => hk) trivial (kW _ _) (Nat.le_refl _) (by simp) ?_; (case hd => rfl); (case hg => rfl); (case hr => first | (go_simp; done) | (go_simp; rfl)); (case hp => exact (Reps.one (show Kd.M (Kd.int .i64) _ _ _ (-1) [.int .i64 (-1)] from rfl) (Reps.one (show Kd.M (Kd.int .i64) _ _ _ 9 [.int .i64 9] from rfl) (Reps.one (show Kd.M (Kd.int .i64) _ _ _ (wrap64 (t256 + 1)) [.int .i64 (wrap64 (t256 + 1))] from rfl) (Reps.none _ _))))); intro v270 w30 ho31 hb hg_ hnew_; clear hg_ hnew_; (first | rw [← Ny269.out] at ho31 | (simp only [Int.reduceToNat] at ho31; rw [← Ny269.out] at ho31)); have HO271 := zA (kI (kF ho31 (kH (zP HO259.out))) (kX (w := w) (g := g) (row := none) (yC HK.out GW255.out GW262.out))); replace HO259 := zA (kE (zP HO259.out) (kC ho31) hb); replace BK255 := zA (zB1 BK255.out hb); replace BK262 := zA (zB1 BK262.out hb); replace HK := zA (kT (yC HK.out GW255.out GW262.out) (kU hb g none) (.inl rfl)); replace HB := zA (kQ (zW HB.out (Z98.ge HI0.out) GE255.out GE262.out) hb); replace HI0 := zA (Z98.below (Z98.uC HI0.out NB0_255.out NB0_262.out) hb); clear hb ho31; obtain ⟨Ao32, co32, eo32⟩ := kM HO271.out; subst eo32) | (refine zO (some 59) Tryd.func68 #[.pointer (some ⟨g, 0, none⟩), .slice Ao32 y269.length co32] ?_; (with_reducible refine (spec_l01Pick.calls g s0_0 t267 t268 _ _ y269 t272 t273 t274 w0 _ ?side1 ?side2 ?side3 ?side4 ?side5 A19.out).mono ?_); (case side1 => exact Z98.uC HI0.out NB0_255.out NB0_262.out); (case side2 => exact zW HB.out (Z98.ge HI0.out) GE255.out GE262.out); (case side3 => exact zS (kB HO271.out).2.2); (case side4 => exact (kB HO271.out).2.1); (case side5 => exact jJ (Z98.own_ne HI0.out HO271.out (by decide))); rintro e w33 ⟨rfl, hi, hb, hk⟩; refine ⟨_, rfl, ?_⟩; replace BK255 := zA (zB2 hk BK255.out NB255_0.out); replace HO259 := zA (zB9 (Z98.apart (show Z98 w0 _ g s0_0 t267 t268 from Z98.uC HI0.out NB0_255.out NB0_262.out) (zP HO259.out) (by decide)) hk); replace BK262 := zA (zB2 hk BK262.out NB262_0.out); replace HO271 := zA (zB9 (Z98.apart (show Z98 w0 _ g s0_0 t267 t268 from Z98.uC HI0.out NB0_255.out NB0_262.out) (zP HO271.out) (by decide)) hk); replace HK := zA (kT (yC HK.out GW255.out GW262.out) hk (.inl rfl)); replace HB := zA (hb); replace HI0 := zA (hi); (try clear hb); (try clear hk); (try clear hi); obtain ⟨hcz34_0, hcz34_1, hfz34_0, hfz34_1⟩ := zB3 BK262.out; have hnb35 := NB255_0.out; have hnc35 := NB0_255.out; obtain ⟨hcz36_0, hcz36_1, hfz36_0, hfz36_1⟩ := zB3 BK255.out))
  refine bodyPost_ret (results_cell_row rfl _ _ gb255 26 #[.int .i64 t272, .slice Ao26 t257.length co26] (0, 0) _ rfl (by (with_reducible repeat (first | refine zJ ?_ _ | refine zK ?_ | refine zI ?_ _)); refine blk_put (cs := #[.int .i64 t272, .slice none 0 0]) ?_ 1 _ rfl; (with_reducible repeat (first | refine zJ ?_ _ | refine zK ?_ | refine zI ?_ _)); refine blk_put (cs := #[.int .i64 0, .slice none 0 0]) ?_ 0 _ rfl; (with_reducible repeat (first | refine zJ ?_ _ | refine zK ?_ | refine zI ?_ _)); refine blk_far ?_ NB255_262.out _; (with_reducible repeat (first | refine zJ ?_ _ | refine zK ?_ | refine zI ?_ _)); exact BK255.out) Tryd.underlying26 rfl (by kernel_rfl)) rfl ?_
  exact ⟨_, zr, by (with_reducible repeat (first | apply zF | apply zG | apply zH)); exact kA (kY (p := ⟨gb255, 1, none⟩) (kY (p := ⟨gb255, 0, none⟩) (kY (p := ⟨gb262, 0, none⟩) (kD (kD HO259.out BK262.out (by decide)) BK255.out (by decide)) (fun _ hk => hk.1.2) (.int .i64 t272)) (fun _ hk => hk.2) (.int .i64 t272)) (fun _ hk => hk.2) (.slice Ao26 t257.length co26)) (fun _ hk => trivial), by repeat (first | (with_reducible first | exact HI0.out | apply Z98.alloc | apply Z98.drewN | apply Z98.drew | apply Z98.set_1 | apply Z98.set_2 | refine Z98.far ?_ NB0_255.out _ | refine Z98.far ?_ NB0_262.out _) | exact HI0.out), zW HB.out (Z98.ge HI0.out) GE255.out GE262.out, by repeat (first | (with_reducible first | exact HK.out | apply KeepBut.set_ | apply keep_drewN | apply keep_drew | apply keep_alloc | refine keep_far ?_ GW255.out _ | refine keep_far ?_ GW262.out _) | exact HK.out)⟩
 rw [if_neg c18] at H
 obtain ⟨c18b0, c18b1⟩ := zT2 c18
 by_cases c37 : t266 = 1
 ·rw [if_pos c37] at H
  obtain ⟨c37b0, c37b1⟩ := zT1 c37
  clear c37
  obtain ⟨y275, hy275⟩ : ∃ y_ : List Int, y_ = (([0, 1, 255] : List Int)) := ⟨_, rfl⟩
  replace H : ((spec_l01Pick.f s0_0 t267 t268 y275).bind fun bt278 => (if t257.length < 17592186044416 then (some (t256, (t257 ++ [bt278.1]), bt278.2.1, bt278.2.2)) else (none))) = some (r1, r2, r3, r4) := zy hy275 H
  have Ny275 := zA hy275
  clear hy275
  obtain ⟨⟨t278, t279, t280⟩, A38, H⟩ := zb H
  try dsimp only at H
  by_cases c39 : t257.length < 17592186044416
  ·rw [if_pos c39] at H
   have LMc39 := zA c39
   clear c39
   obtain ⟨y281, hy281⟩ : ∃ y_ : List Int, y_ = (t257 ++ [t278]) := ⟨_, rfl⟩
   replace H : (some (t256, y281, t279, t280)) = some (r1, r2, r3, r4) := zy hy281 H
   have Ny281 := zA hy281
   clear hy281
   simp only [Option.some.injEq, Prod.mk.injEq] at H
   obtain ⟨rfl, rfl, rfl, rfl⟩ := H
   go_enter Tryd.func45, Tryd.ntmps45
   try go_wp2_with (first | (refine zBE 4 #[.int .i64 0, .slice none 0 0] 26 ?_; intro gb255 hg w40 hbox hb; replace HB := zA (kQ (zT HB.out (Z98.ge HI0.out)) hb); have BK255 := zA (hbox); have GW255 := zA (zB6 hg (kX (w := w) (g := g) (row := none) (yA HK.out)) : w.heap.size ≤ gb255); have GE255 := zA ((Nat.le_trans HW0.out (by rw [hg]; exact (kX (w := w) (g := g) (row := none) (yA HK.out)) : w.heap.size ≤ gb255) : w0.heap.size ≤ gb255)); replace HK := zA (kT (yA HK.out) (kU hb g none) (.inl rfl)); have NB0_255 := zA (zB7 hg (Z98.lt (show Z98 w0 _ g s0_0 s0_1 s0_2 from Z98.uA HI0.out)) : g ≠ gb255); have NB255_0 := zA (zB8 hg (Z98.lt (show Z98 w0 _ g s0_0 s0_1 s0_2 from Z98.uA HI0.out)) : gb255 ≠ g); replace HI0 := zA (Z98.below (Z98.uA HI0.out) hb); clear hb hbox hg) | (refine zO (some 9) Tryd.func83 #[.pointer (some ⟨g, 0, none⟩), .int .i64 a1] ?_; (with_reducible refine (spec_l02Draw.calls k g s0_0 s0_1 s0_2 a1 t256 t257 t260 t261 w0 _ ?side1 ?side2 A3.out).mono ?_); (case side1 => exact Z98.uB HI0.out NB0_255.out); (case side2 => exact zV HB.out (Z98.ge HI0.out) GE255.out); rintro e w41 ⟨v258, rfl, ho0, hi, hb, hk⟩; refine ⟨_, rfl, ?_⟩; replace BK255 := zA (zB2 hk BK255.out NB255_0.out); have HO259 := zA (kI ho0 (kX (w := w) (g := g) (row := none) (yB HK.out GW255.out))); replace HK := zA (kT (yB HK.out GW255.out) hk (.inl rfl)); replace HB := zA (hb); replace HI0 := zA (hi); (try clear hb); (try clear hk); (try clear hi); (try clear ho0)) | (refine zBE 5 #[.int .i64 0, .slice none 0 0] 26 ?_; intro gb262 hg w42 hbox hb; replace HO259 := zA (kL (zP HO259.out) hb); replace HB := zA (kQ (zV HB.out (Z98.ge HI0.out) GE255.out) hb); have BK262 := zA (hbox); have GW262 := zA (zB6 hg (kX (w := w) (g := g) (row := none) (yB HK.out GW255.out)) : w.heap.size ≤ gb262); have GE262 := zA ((Nat.le_trans HW0.out (by rw [hg]; exact (kX (w := w) (g := g) (row := none) (yB HK.out GW255.out)) : w.heap.size ≤ gb262) : w0.heap.size ≤ gb262)); replace HK := zA (kT (yB HK.out GW255.out) (kU hb g none) (.inl rfl)); have NB255_262 := zA (zB4 hg BK255.out : gb255 ≠ gb262); have NB262_255 := zA (zB5 hg BK255.out : gb262 ≠ gb255); replace BK255 := zA (zB1 BK255.out hb); have NB0_262 := zA (zB7 hg (Z98.lt (show Z98 w0 _ g s0_0 t260 t261 from Z98.uB HI0.out NB0_255.out)) : g ≠ gb262); have NB262_0 := zA (zB8 hg (Z98.lt (show Z98 w0 _ g s0_0 t260 t261 from Z98.uB HI0.out NB0_255.out)) : gb262 ≠ g); replace HI0 := zA (Z98.below (Z98.uB HI0.out NB0_255.out) hb); clear hb hbox hg; have hnb43 := NB262_255.out; have hnc43 := NB255_262.out; have hnb44 := NB262_0.out; have hnc44 := NB0_262.out; obtain ⟨hcz45_0, hcz45_1, hfz45_0, hfz45_1⟩ := zB3 BK262.out; obtain ⟨Ao46, co46, eo46⟩ := kM HO259.out; subst eo46) | (refine zO (some 11) Tryd.func51 #[.pointer (some ⟨g, 0, none⟩), .int .i64 14] ?_; (with_reducible refine (spec_l01Next.calls g s0_0 t260 t261 14 t263 t264 t265 w0 _ ?side1 ?side2 A4.out).mono ?_); (case side1 => exact Z98.uC HI0.out NB0_255.out NB0_262.out); (case side2 => exact zW HB.out (Z98.ge HI0.out) GE255.out GE262.out); rintro e w47 ⟨rfl, hi, hb, hk⟩; refine ⟨_, rfl, ?_⟩; replace BK255 := zA (KeepBut.blk hk (g' := gb255) (o := .cells #[.int .i64 0, .slice none 0 0] 26 (0, 0)) (zBG BK255.out NB255_262.out NB255_262.out) NB255_0.out (by simp)); replace HO259 := zA (kA (Kd.R_keep (Z98.apart (show Z98 w0 _ g s0_0 t260 t261 from Z98.uC HI0.out NB0_255.out NB0_262.out) (zP (zFG HO259.out BK262.out (.int .i64 t256) (.slice Ao46 t257.length co46))) (by decide)) hk (fun _ h => h.2)) (fun _ h => h.1)); replace BK262 := zA (KeepBut.blk hk (g' := gb262) (o := .cells #[.int .i64 t256, .slice Ao46 t257.length co46] 26 (0, 0)) (zRP BK262.out) NB262_0.out (by simp)); replace HK := zA (kT (yC HK.out GW255.out GW262.out) hk (.inl rfl)); replace HB := zA (hb); replace HI0 := zA (hi); (try clear hb); (try clear hk); (try clear hi)) | (refine zO (some 15) Tryd.func51 #[.pointer (some ⟨g, 0, none⟩), .int .i64 4] ?_; (with_reducible refine (spec_l01Next.calls g s0_0 t264 t265 4 t266 t267 t268 w0 _ ?side1 ?side2 A17.out).mono ?_); (case side1 => exact Z98.uC HI0.out NB0_255.out NB0_262.out); (case side2 => exact zW HB.out (Z98.ge HI0.out) GE255.out GE262.out); rintro e w48 ⟨rfl, hi, hb, hk⟩; refine ⟨_, rfl, ?_⟩; replace BK255 := zA (zB2 hk BK255.out NB255_0.out); replace HO259 := zA (zB9 (Z98.apart (show Z98 w0 _ g s0_0 t264 t265 from Z98.uC HI0.out NB0_255.out NB0_262.out) (zP HO259.out) (by decide)) hk); replace BK262 := zA (zB2 hk BK262.out NB262_0.out); replace HK := zA (kT (yC HK.out GW255.out GW262.out) hk (.inl rfl)); replace HB := zA (hb); replace HI0 := zA (hi); (try clear hb); (try clear hk); (try clear hi)))
   replace HO259 := zA (zH HO259.out)
   replace BK255 := zA (zK BK255.out)
   replace BK262 := zA (zK BK262.out)
   replace HI0 := zA (Z98.drew HI0.out)
   replace HK := zA (keep_drew HK.out)
   replace HB := zA (zD HB.out)
   refine start_ (n := 9) (S := fun w' => w'.cell? ⟨gb262, 0, none⟩ = some (.int .i64 t256) ∧ w'.cell? ⟨gb262, 1, none⟩ = some (.slice Ao46 t257.length co46)) (ds := [8]) #[false, false, false, false, false, false, false, false, false] (by kernel_rfl) rfl rfl ⟨(kV BK262.out 0).trans rfl, (kV BK262.out 1).trans rfl⟩ (fun hHeld => ?_); refine with_tabW spec_l02Spoil.tab11 spec_l02Spoil.bits11 (fun HT_ HW_ => ?_)
   generalize w48.drew = w49 at HO259 BK255 BK262 HI0 HK HB hHeld ⊢
   refine zp 0 (some 63) #[true, false, false, false, false, false, false, false, false] HT_.out ?_
   refine zp 2 (some 65) #[true, false, true, false, false, false, false, false, false] HT_.out ?_
   refine zc 1 (some 64) #[true, true, true, false, false, false, false, false, false] HT_.out HW_.out hHeld ?_
   refine one_ (i := 3) (N := some 66) #[true, true, true, true, false, false, false, false, false] rfl rfl (one_of HT_.out (by kernel_rfl)) (by decide) (fun K hK => ?_)
   refine Kd.R_lit_step (Kd.int .i64) _ 2 ?hg (N := 66) ?hd (xs := ([0, 1, 255] : List Int)) (inner := [.int .i64 0, .int .i64 1, .int .i64 255]) (ok := fun _ => True) (okp := fun _ => True) ?hr ?hp (fun _ hk => hk) trivial (kW _ _) (Nat.le_refl _) (by simp) ?_; (case hd => rfl); (case hg => rfl); (case hr => first | (go_simp; done) | (go_simp; rfl)); (case hp => exact (Reps.one (show Kd.M (Kd.int .i64) _ _ _ 0 [.int .i64 0] from rfl) (Reps.one (show Kd.M (Kd.int .i64) _ _ _ 1 [.int .i64 1] from rfl) (Reps.one (show Kd.M (Kd.int .i64) _ _ _ 255 [.int .i64 255] from rfl) (Reps.none _ _)))))
   intro v276 w50 ho51 hb hg_ hnew_
   clear hg_ hnew_
   (first | rw [← Ny275.out] at ho51 | (simp only [Int.reduceToNat] at ho51; rw [← Ny275.out] at ho51))
   have HO277 := zA (kI (kF ho51 (kH (zP HO259.out))) (kX (w := w) (g := g) (row := none) (yC HK.out GW255.out GW262.out)))
   replace HO259 := zA (kE (zP HO259.out) (kC ho51) hb)
   replace BK255 := zA (zB1 BK255.out hb)
   replace BK262 := zA (zB1 BK262.out hb)
   replace HK := zA (kT (yC HK.out GW255.out GW262.out) (kU hb g none) (.inl rfl))
   replace HB := zA (kQ (zW HB.out (Z98.ge HI0.out) GE255.out GE262.out) hb)
   replace HI0 := zA (Z98.below (Z98.uC HI0.out NB0_255.out NB0_262.out) hb)
   clear hb ho51
   obtain ⟨Ao52, co52, eo52⟩ := kM HO277.out
   (first | subst eo52 | (injection eo52 with f1_ f2_ f3_; have f4_ := f1_.symm; have f5_ := f3_.symm; clear f1_ f2_ f3_; subst f4_; subst f5_))
   refine hK.out _ _ ⟨(kV BK262.out 0).trans rfl, (kV BK262.out 1).trans rfl⟩ (fun hHeld => ?_)
   clear hK K
   refine norm_ (a' := ?_) ?_ ?_
   rotate_left
   ·show Act.put _ (some 66) _ = _
    simp only [Act.put, zL, zM, zN, i64_w, i32_w]
    rfl
   refine one_ (i := 4) (N := some 67) #[true, true, true, true, true, false, false, false, false] rfl rfl (one_of HT_.out (by kernel_rfl)) (by decide) (fun K hK => ?_)
   refine goes_ Tryd.func68 (by kernel_rfl) rfl #[.pointer (some ⟨g, 0, none⟩), .slice Ao52 y275.length co52] (by rfl) rfl rfl zg ?_
   with_reducible refine (spec_l01Pick.calls g s0_0 t267 t268 _ _ y275 t278 t279 t280 w0 _ ?side1 ?side2 ?side3 ?side4 ?side5 A38.out).mono ?_
   (case side1 => exact Z98.uC HI0.out NB0_255.out NB0_262.out)
   (case side2 => exact zW HB.out (Z98.ge HI0.out) GE255.out GE262.out)
   (case side3 => exact zS (kB HO277.out).2.2)
   (case side4 => exact (kB HO277.out).2.1)
   (case side5 => exact jJ (Z98.own_ne HI0.out HO277.out (by decide)))
   rintro e w53 ⟨rfl, hi, hb, hk⟩
   refine ⟨_, rfl, ?_⟩
   replace BK255 := zA (zB2 hk BK255.out NB255_0.out)
   replace HO259 := zA (zB9 (Z98.apart (show Z98 w0 _ g s0_0 t267 t268 from Z98.uC HI0.out NB0_255.out NB0_262.out) (zP HO259.out) (by decide)) hk)
   replace BK262 := zA (zB2 hk BK262.out NB262_0.out)
   replace HO277 := zA (zB9 (Z98.apart (show Z98 w0 _ g s0_0 t267 t268 from Z98.uC HI0.out NB0_255.out NB0_262.out) (zP HO277.out) (by decide)) hk)
   replace HK := zA (kT (yC HK.out GW255.out GW262.out) hk (.inl rfl))
   replace HB := zA (hb)
   replace HI0 := zA (hi)
   (try clear hb)
   (try clear hb2)
   (try clear hk)
   (try clear hi)
   (try clear hgw)
   refine hK.out _ _ ⟨(kV BK262.out 0).trans rfl, (kV BK262.out 1).trans rfl⟩ (fun hHeld => ?_)
   clear hK K
   refine norm_ (a' := ?_) ?_ ?_
   rotate_left
   ·show Act.put _ (some 67) _ = _
    simp only [Act.put, zL, zM, zN, i64_w, i32_w]
    rfl
   refine one_ (i := 5) (N := some 68) #[true, true, true, true, true, true, false, false, false] rfl rfl (one_of HT_.out (by kernel_rfl)) (by decide) (fun K hK => ?_)
   refine value_ (w1 := ?_) (v := ?_) (by rfl) rfl ?_ ?_
   rotate_left 2
   ·go_simp
    constructor
    ·rfl
    rfl
   refine hK.out _ _ ⟨(kV (zI BK262.out _) 0).trans rfl, (kV (zI BK262.out _) 1).trans rfl⟩ (fun hHeld => ?_)
   clear hK K
   refine norm_ (a' := ?_) ?_ ?_
   rotate_left
   ·show Act.put _ (some 68) _ = _
    simp only [Act.put, zL, zM, zN, i64_w, i32_w]
    rfl
   refine one_ (i := 6) (N := some 69) #[true, true, true, true, true, true, true, false, false] rfl rfl (one_of HT_.out (by kernel_rfl)) (by decide) (fun K hK => ?_)
   refine Kd.R_append_step (Kd.int .i64) w.heap.size (by rfl) (.tmp 64) (.tmp 68) 24 2 (.int .i64 0) 8 rfl Tryd.underlying24 info2 rfl (by decide) (by omega) (.slice Ao46 t257.length co46) t257 t278 [.int .i64 t278] (fun k_ => some k_ ≠ (.slice Ao52 y275.length co52 : Value).ownBlock) (fun _ => False) rfl rfl ?aP (fun _ hk => hk.elim) ?aF ?aO (kW _ _) ?aS ?aL ?_
   (case aP => exact rfl)
   (case aF => exact (fun k_ hk => jF (kH (zP HO277.out)) k_ hk))
   (case aO => exact (by (with_reducible repeat (first | apply zF | apply zG | apply zH)); exact kA HO259.out (fun _ hk => hk.2)))
   (case aS => exact (kX (w := w) (g := g) (row := none) (yC HK.out GW255.out GW262.out)))
   (case aL => have := LMc39.out; omega)
   intro v282 w54 ho hb hg hat
   rw [← Ny281.out] at ho
   replace BK255 := zA (blk_grown (g := gb255) (o := .cells #[.int .i64 0, .slice none 0 0] 26 (0, 0)) (zR BK255.out) hg (Kd.R_ne HO259.out BK255.out (by decide)))
   replace BK262 := zA (blk_grown (g := gb262) (o := .cells #[.int .i64 t256, .slice Ao46 t257.length co46] 26 (0, 0)) (zR BK262.out) hg (Kd.R_ne HO259.out BK262.out (by decide)))
   replace HO277 := zA (Kd.R_after (ok := (fun _ => True)) (zP HO277.out) hg hat)
   replace HB := zA (below_weaken (zW HB.out (Z98.ge HI0.out) GE255.out GE262.out) HL.out hb)
   replace HI0 := zA (Z98.grown (Z98.uC HI0.out NB0_255.out NB0_262.out) hg (Z98.own_ne HI0.out HO259.out (by decide)))
   replace HK := zA (kT (yC HK.out GW255.out GW262.out) (KeepBut.of_grown hg g) (Kd.R_base2 HO259.out))
   have HO283 := zA (ho)
   clear HO259 ho hb hg hat
   obtain ⟨Ao55, co55, eo55⟩ := kM HO283.out
   (first | subst eo55 | (injection eo55 with f1_ f2_ f3_; have f4_ := f1_.symm; have f5_ := f3_.symm; clear f1_ f2_ f3_; subst f4_; subst f5_))
   refine hK.out _ _ ⟨(kV BK262.out 0).trans rfl, (kV BK262.out 1).trans rfl⟩ (fun hHeld => ?_)
   clear hK K
   refine norm_ (a' := ?_) ?_ ?_
   rotate_left
   ·show Act.put _ (some 69) _ = _
    simp only [Act.put, zL, zM, zN, i64_w, i32_w]
    rfl
   refine zp 7 (some 70) #[true, true, true, true, true, true, true, true, false] HT_.out ?_
   refine last_ (i := 8) (N := none) #[true, true, true, true, true, true, true, true, true] rfl rfl (one_of HT_.out (by kernel_rfl)) (by decide) (fun K hK => ?_)
   have hs56 : w54.cell? ⟨gb262, 1, none⟩ = some (.slice Ao46 t257.length co46) := (kV BK262.out 1).trans rfl
   have hfs56 := jH BK262.out 1
   have hns56_0 := NB255_262.out
   have hms56_0 := NB262_255.out
   refine skip_ (w1 := ?_) (by rfl) rfl ?_ ?_
   rotate_left
   ·go_simp
    rfl
   refine hK.out _ _ ?_
   clear hK K
   refine done_ (done_of HT_.out (by kernel_rfl)) ?_
   obtain ⟨hcz57_0, hcz57_1, hfz57_0, hfz57_1⟩ := zB3 BK262.out
   have hnb58 := NB255_0.out
   have hnc58 := NB0_255.out
   obtain ⟨hcz59_0, hcz59_1, hfz59_0, hfz59_1⟩ := zB3 BK255.out
   try go_wp2
   refine bodyPost_ret (results_cell_row rfl _ _ gb255 26 #[.int .i64 t256, .slice Ao55 y281.length co55] (0, 0) _ rfl (by (with_reducible repeat (first | refine zJ ?_ _ | refine zK ?_ | refine zI ?_ _)); refine blk_put (cs := #[.int .i64 t256, .slice none 0 0]) ?_ 1 _ rfl; (with_reducible repeat (first | refine zJ ?_ _ | refine zK ?_ | refine zI ?_ _)); refine blk_put (cs := #[.int .i64 0, .slice none 0 0]) ?_ 0 _ rfl; (with_reducible repeat (first | refine zJ ?_ _ | refine zK ?_ | refine zI ?_ _)); refine blk_far ?_ NB255_262.out _; (with_reducible repeat (first | refine zJ ?_ _ | refine zK ?_ | refine zI ?_ _)); exact BK255.out) Tryd.underlying26 rfl (by kernel_rfl)) rfl ?_
   exact ⟨_, zr, by (with_reducible repeat (first | apply zF | apply zG | apply zH)); exact kA (kY (p := ⟨gb255, 1, none⟩) (kY (p := ⟨gb255, 0, none⟩) (kY (p := ⟨gb262, 1, none⟩) (kD (kD HO283.out BK262.out (by decide)) BK255.out (by decide)) (fun _ hk => hk.1.2) (.slice Ao55 y281.length co55)) (fun _ hk => hk.2) (.int .i64 t256)) (fun _ hk => hk.2) (.slice Ao55 y281.length co55)) (fun _ hk => trivial), by repeat (first | (with_reducible first | exact HI0.out | apply Z98.alloc | apply Z98.drewN | apply Z98.drew | apply Z98.set_1 | apply Z98.set_2 | refine Z98.far ?_ NB0_255.out _ | refine Z98.far ?_ NB0_262.out _) | exact HI0.out), zW HB.out (Z98.ge HI0.out) GE255.out GE262.out, by repeat (first | (with_reducible first | exact HK.out | apply KeepBut.set_ | apply keep_drewN | apply keep_drew | apply keep_alloc | refine keep_far ?_ GW255.out _ | refine keep_far ?_ GW262.out _) | exact HK.out)⟩
  rw [if_neg c39] at H
  exact absurd H (by simp)
 rw [if_neg c37] at H
 obtain ⟨c37b0, c37b1⟩ := zT2 c37
 by_cases c60 : t256 > 0
 ·rw [if_pos c60] at H
  have c60b0 : decide (0 < t256) = true := decide_eq_true c60
  clear c60
  obtain ⟨⟨t284, t285, t286⟩, A61, H⟩ := zb H
  try dsimp only at H
  by_cases c62 : 0 ≤ t284
  ·rw [if_pos c62] at H
   have c62b0 : decide (0 ≤ t284) = true := decide_eq_true c62
   clear c62
   by_cases c63 : t284 < (t257.length : Int)
   ·rw [if_pos c63] at H
    have c63b0 : decide (t284 < (t257.length : Int)) = true := decide_eq_true c63
    clear c63
    obtain ⟨t288, A64, H⟩ := zb H
    try dsimp only at H
    obtain ⟨t290, A65, H⟩ := zb H
    try dsimp only at H
    obtain ⟨t291, A66, H⟩ := zb H
    try dsimp only at H
    obtain ⟨⟨t292, t293, t294⟩, A67, H⟩ := zb H
    try dsimp only at H
    obtain ⟨y295, hy295⟩ : ∃ y_ : List Int, y_ = (([wrap64 ((rd t257 t284) - t288), Go.bits .or .i64 (rd t257 t284) t290, t292, (-1)] : List Int)) := ⟨_, rfl⟩
    replace H : ((spec_l01Pick.f s0_0 t293 t294 y295).bind fun bt298 => (some (t256, (t257.set (t284 : Int).toNat bt298.1), bt298.2.1, bt298.2.2))) = some (r1, r2, r3, r4) := zy hy295 H
    have Ny295 := zA hy295
    clear hy295
    obtain ⟨⟨t298, t299, t300⟩, A68, H⟩ := zb H
    try dsimp only at H
    obtain ⟨y301, hy301⟩ : ∃ y_ : List Int, y_ = (t257.set (t284 : Int).toNat t298) := ⟨_, rfl⟩
    replace H : (some (t256, y301, t299, t300)) = some (r1, r2, r3, r4) := zy hy301 H
    have Ny301 := zA hy301
    clear hy301
    simp only [Option.some.injEq, Prod.mk.injEq] at H
    obtain ⟨rfl, rfl, rfl, rfl⟩ := H
    go_enter Tryd.func45, Tryd.ntmps45
    try go_wp2_with (first | (refine zBE 4 #[.int .i64 0, .slice none 0 0] 26 ?_; intro gb255 hg w70 hbox hb; replace HB := zA (kQ (zT HB.out (Z98.ge HI0.out)) hb); have BK255 := zA (hbox); have GW255 := zA (zB6 hg (kX (w := w) (g := g) (row := none) (yA HK.out)) : w.heap.size ≤ gb255); have GE255 := zA ((Nat.le_trans HW0.out (by rw [hg]; exact (kX (w := w) (g := g) (row := none) (yA HK.out)) : w.heap.size ≤ gb255) : w0.heap.size ≤ gb255)); replace HK := zA (kT (yA HK.out) (kU hb g none) (.inl rfl)); have NB0_255 := zA (zB7 hg (Z98.lt (show Z98 w0 _ g s0_0 s0_1 s0_2 from Z98.uA HI0.out)) : g ≠ gb255); have NB255_0 := zA (zB8 hg (Z98.lt (show Z98 w0 _ g s0_0 s0_1 s0_2 from Z98.uA HI0.out)) : gb255 ≠ g); replace HI0 := zA (Z98.below (Z98.uA HI0.out) hb); clear hb hbox hg) | (refine zO (some 9) Tryd.func83 #[.pointer (some ⟨g, 0, none⟩), .int .i64 a1] ?_; (with_reducible refine (spec_l02Draw.calls k g s0_0 s0_1 s0_2 a1 t256 t257 t260 t261 w0 _ ?side1 ?side2 A3.out).mono ?_); (case side1 => exact Z98.uB HI0.out NB0_255.out); (case side2 => exact zV HB.out (Z98.ge HI0.out) GE255.out); rintro e w71 ⟨v258, rfl, ho0, hi, hb, hk⟩; refine ⟨_, rfl, ?_⟩; replace BK255 := zA (zB2 hk BK255.out NB255_0.out); have HO259 := zA (kI ho0 (kX (w := w) (g := g) (row := none) (yB HK.out GW255.out))); replace HK := zA (kT (yB HK.out GW255.out) hk (.inl rfl)); replace HB := zA (hb); replace HI0 := zA (hi); (try clear hb); (try clear hk); (try clear hi); (try clear ho0)) | (refine zBE 5 #[.int .i64 0, .slice none 0 0] 26 ?_; intro gb262 hg w72 hbox hb; replace HO259 := zA (kL (zP HO259.out) hb); replace HB := zA (kQ (zV HB.out (Z98.ge HI0.out) GE255.out) hb); have BK262 := zA (hbox); have GW262 := zA (zB6 hg (kX (w := w) (g := g) (row := none) (yB HK.out GW255.out)) : w.heap.size ≤ gb262); have GE262 := zA ((Nat.le_trans HW0.out (by rw [hg]; exact (kX (w := w) (g := g) (row := none) (yB HK.out GW255.out)) : w.heap.size ≤ gb262) : w0.heap.size ≤ gb262)); replace HK := zA (kT (yB HK.out GW255.out) (kU hb g none) (.inl rfl)); have NB255_262 := zA (zB4 hg BK255.out : gb255 ≠ gb262); have NB262_255 := zA (zB5 hg BK255.out : gb262 ≠ gb255); replace BK255 := zA (zB1 BK255.out hb); have NB0_262 := zA (zB7 hg (Z98.lt (show Z98 w0 _ g s0_0 t260 t261 from Z98.uB HI0.out NB0_255.out)) : g ≠ gb262); have NB262_0 := zA (zB8 hg (Z98.lt (show Z98 w0 _ g s0_0 t260 t261 from Z98.uB HI0.out NB0_255.out)) : gb262 ≠ g); replace HI0 := zA (Z98.below (Z98.uB HI0.out NB0_255.out) hb); clear hb hbox hg; have hnb73 := NB262_255.out; have hnc73 := NB255_262.out; have hnb74 := NB262_0.out; have hnc74 := NB0_262.out; obtain ⟨hcz75_0, hcz75_1, hfz75_0, hfz75_1⟩ := zB3 BK262.out; obtain ⟨Ao76, co76, eo76⟩ := kM HO259.out; subst eo76) | (refine zO (some 11) Tryd.func51 #[.pointer (some ⟨g, 0, none⟩), .int .i64 14] ?_; (with_reducible refine (spec_l01Next.calls g s0_0 t260 t261 14 t263 t264 t265 w0 _ ?side1 ?side2 A4.out).mono ?_); (case side1 => exact Z98.uC HI0.out NB0_255.out NB0_262.out); (case side2 => exact zW HB.out (Z98.ge HI0.out) GE255.out GE262.out); rintro e w77 ⟨rfl, hi, hb, hk⟩; refine ⟨_, rfl, ?_⟩; replace BK255 := zA (KeepBut.blk hk (g' := gb255) (o := .cells #[.int .i64 0, .slice none 0 0] 26 (0, 0)) (zBG BK255.out NB255_262.out NB255_262.out) NB255_0.out (by simp)); replace HO259 := zA (kA (Kd.R_keep (Z98.apart (show Z98 w0 _ g s0_0 t260 t261 from Z98.uC HI0.out NB0_255.out NB0_262.out) (zP (zFG HO259.out BK262.out (.int .i64 t256) (.slice Ao76 t257.length co76))) (by decide)) hk (fun _ h => h.2)) (fun _ h => h.1)); replace BK262 := zA (KeepBut.blk hk (g' := gb262) (o := .cells #[.int .i64 t256, .slice Ao76 t257.length co76] 26 (0, 0)) (zRP BK262.out) NB262_0.out (by simp)); replace HK := zA (kT (yC HK.out GW255.out GW262.out) hk (.inl rfl)); replace HB := zA (hb); replace HI0 := zA (hi); (try clear hb); (try clear hk); (try clear hi)) | (refine zO (some 15) Tryd.func51 #[.pointer (some ⟨g, 0, none⟩), .int .i64 4] ?_; (with_reducible refine (spec_l01Next.calls g s0_0 t264 t265 4 t266 t267 t268 w0 _ ?side1 ?side2 A17.out).mono ?_); (case side1 => exact Z98.uC HI0.out NB0_255.out NB0_262.out); (case side2 => exact zW HB.out (Z98.ge HI0.out) GE255.out GE262.out); rintro e w78 ⟨rfl, hi, hb, hk⟩; refine ⟨_, rfl, ?_⟩; replace BK255 := zA (zB2 hk BK255.out NB255_0.out); replace HO259 := zA (zB9 (Z98.apart (show Z98 w0 _ g s0_0 t264 t265 from Z98.uC HI0.out NB0_255.out NB0_262.out) (zP HO259.out) (by decide)) hk); replace BK262 := zA (zB2 hk BK262.out NB262_0.out); replace HK := zA (kT (yC HK.out GW255.out GW262.out) hk (.inl rfl)); replace HB := zA (hb); replace HI0 := zA (hi); (try clear hb); (try clear hk); (try clear hi); obtain ⟨hcz79_0, hcz79_1, hfz79_0, hfz79_1⟩ := zB3 BK262.out) | (refine zO (some 22) Tryd.func51 #[.pointer (some ⟨g, 0, none⟩), .int .i64 t256] ?_; (with_reducible refine (spec_l01Next.calls g s0_0 t267 t268 t256 t284 t285 t286 w0 _ ?side1 ?side2 A61.out).mono ?_); (case side1 => exact Z98.uC HI0.out NB0_255.out NB0_262.out); (case side2 => exact zW HB.out (Z98.ge HI0.out) GE255.out GE262.out); rintro e w80 ⟨rfl, hi, hb, hk⟩; refine ⟨_, rfl, ?_⟩; replace BK255 := zA (zB2 hk BK255.out NB255_0.out); replace HO259 := zA (zB9 (Z98.apart (show Z98 w0 _ g s0_0 t267 t268 from Z98.uC HI0.out NB0_255.out NB0_262.out) (zP HO259.out) (by decide)) hk); replace BK262 := zA (zB2 hk BK262.out NB262_0.out); replace HK := zA (kT (yC HK.out GW255.out GW262.out) hk (.inl rfl)); replace HB := zA (hb); replace HI0 := zA (hi); (try clear hb); (try clear hk); (try clear hi)))
    replace HO259 := zA (zH HO259.out)
    replace BK255 := zA (zK BK255.out)
    replace BK262 := zA (zK BK262.out)
    replace HI0 := zA (Z98.drew HI0.out)
    replace HK := zA (keep_drew HK.out)
    replace HB := zA (zD HB.out)
    have p287 : 0 ≤ (t284 : Int) := zd
    have q287 : t284 < (t257.length : Int) := zd
    obtain ⟨ad287, e287, hx287_0⟩ := Kd.at_int (kB HO259.out).2.2 t284 p287 q287
    cases e287
    replace p287 := eq_true p287
    replace q287 := eq_true q287
    have p289 : 0 ≤ (t284 : Int) := zd
    have q289 : t284 < (t257.length : Int) := zd
    obtain ⟨ad289, e289, hx289_0⟩ := Kd.at_int (kB HO259.out).2.2 t284 p289 q289
    obtain rfl : ad287 = ad289 := (by injection e289)
    replace p289 := eq_true p289
    replace q289 := eq_true q289
    refine start_ (n := 30) (S := fun w' => w'.cell? ⟨gb262, 0, none⟩ = some (.int .i64 t256) ∧ w'.cell? ⟨gb262, 1, none⟩ = some (.slice (some ad287) t257.length co76) ∧ w'.cell? (ad287.add (t284).toNat) = some (.int .i64 (rd t257 t284)) ∧ w'.cell? (ad287.add (t284).toNat) = some (.int .i64 (rd t257 t284))) (ds := [29]) #[false, false, false, false, false, false, false, false, false, false, false, false, false, false, false, false, false, false, false, false, false, false, false, false, false, false, false, false, false, false] (by kernel_rfl) rfl rfl ⟨(kV BK262.out 0).trans rfl, (kV BK262.out 1).trans rfl, hx287_0, hx289_0⟩ (fun hHeld => ?_); refine with_tabW spec_l02Spoil.tab7 spec_l02Spoil.bits7 (fun HT_ HW_ => ?_)
    generalize w80.drew = w81 at HO259 BK255 BK262 HI0 HK HB hx287_0 hx289_0 hHeld ⊢
    refine zp 0 (some 23) #[true, false, false, false, false, false, false, false, false, false, false, false, false, false, false, false, false, false, false, false, false, false, false, false, false, false, false, false, false, false] HT_.out ?_
    refine zp 2 (some 25) #[true, false, true, false, false, false, false, false, false, false, false, false, false, false, false, false, false, false, false, false, false, false, false, false, false, false, false, false, false, false] HT_.out ?_
    refine zp 3 (some 26) #[true, false, true, true, false, false, false, false, false, false, false, false, false, false, false, false, false, false, false, false, false, false, false, false, false, false, false, false, false, false] HT_.out ?_
    refine zp 4 (some 27) #[true, false, true, true, true, false, false, false, false, false, false, false, false, false, false, false, false, false, false, false, false, false, false, false, false, false, false, false, false, false] HT_.out ?_
    refine zp 6 (some 29) #[true, false, true, true, true, false, true, false, false, false, false, false, false, false, false, false, false, false, false, false, false, false, false, false, false, false, false, false, false, false] HT_.out ?_
    refine zp 9 (some 32) #[true, false, true, true, true, false, true, false, false, true, false, false, false, false, false, false, false, false, false, false, false, false, false, false, false, false, false, false, false, false] HT_.out ?_
    refine zp 12 (some 35) #[true, false, true, true, true, false, true, false, false, true, false, false, true, false, false, false, false, false, false, false, false, false, false, false, false, false, false, false, false, false] HT_.out ?_
    refine zp 14 (some 37) #[true, false, true, true, true, false, true, false, false, true, false, false, true, false, true, false, false, false, false, false, false, false, false, false, false, false, false, false, false, false] HT_.out ?_
    refine zp 17 (some 40) #[true, false, true, true, true, false, true, false, false, true, false, false, true, false, true, false, false, true, false, false, false, false, false, false, false, false, false, false, false, false] HT_.out ?_
    refine zp 21 (some 44) #[true, false, true, true, true, false, true, false, false, true, false, false, true, false, true, false, false, true, false, false, false, true, false, false, false, false, false, false, false, false] HT_.out ?_
    refine zp 22 (some 45) #[true, false, true, true, true, false, true, false, false, true, false, false, true, false, true, false, false, true, false, false, false, true, true, false, false, false, false, false, false, false] HT_.out ?_
    refine zf 1 (some 24) #[true, true, true, true, true, false, true, false, false, true, false, false, true, false, true, false, false, true, false, false, false, true, true, false, false, false, false, false, false, false] HT_.out HW_.out hHeld ?_
    refine zf 5 (some 28) #[true, true, true, true, true, true, true, false, false, true, false, false, true, false, true, false, false, true, false, false, false, true, true, false, false, false, false, false, false, false] HT_.out HW_.out hHeld ?_
    refine zp 7 (some 30) #[true, true, true, true, true, true, true, true, false, true, false, false, true, false, true, false, false, true, false, false, false, true, true, false, false, false, false, false, false, false] HT_.out ?_
    refine zf 8 (some 31) #[true, true, true, true, true, true, true, true, true, true, false, false, true, false, true, false, false, true, false, false, false, true, true, false, false, false, false, false, false, false] HT_.out HW_.out hHeld ?_
    refine zf 13 (some 36) #[true, true, true, true, true, true, true, true, true, true, false, false, true, true, true, false, false, true, false, false, false, true, true, false, false, false, false, false, false, false] HT_.out HW_.out hHeld ?_
    refine zp 15 (some 38) #[true, true, true, true, true, true, true, true, true, true, false, false, true, true, true, true, false, true, false, false, false, true, true, false, false, false, false, false, false, false] HT_.out ?_
    refine zf 16 (some 39) #[true, true, true, true, true, true, true, true, true, true, false, false, true, true, true, true, true, true, false, false, false, true, true, false, false, false, false, false, false, false] HT_.out HW_.out hHeld ?_
    refine zf 18 (some 41) #[true, true, true, true, true, true, true, true, true, true, false, false, true, true, true, true, true, true, true, false, false, true, true, false, false, false, false, false, false, false] HT_.out HW_.out hHeld ?_
    refine zf 23 (some 46) #[true, true, true, true, true, true, true, true, true, true, false, false, true, true, true, true, true, true, true, false, false, true, true, true, false, false, false, false, false, false] HT_.out HW_.out hHeld ?_
    refine one_ (i := 10) (N := some 33) #[true, true, true, true, true, true, true, true, true, true, true, false, true, true, true, true, true, true, true, false, false, true, true, true, false, false, false, false, false, false] rfl rfl (one_of HT_.out (by kernel_rfl)) (by decide) (fun K hK => ?_)
    refine goes_ Tryd.func71 (by kernel_rfl) rfl #[.int .i64 t284] (by rfl) rfl rfl zg ?_
    with_reducible refine (spec_l01One.calls t284 t288 _ A64.out).mono ?_
    rintro e w' ⟨rfl, ⟨nd, rfl⟩⟩
    refine ⟨_, rfl, ?_⟩
    refine hK.out _ _ ⟨(kV BK262.out 0).trans rfl, (kV BK262.out 1).trans rfl, hHeld.2.2.1, hHeld.2.2.2⟩ (fun hHeld => ?_)
    clear hK K
    refine norm_ (a' := ?_) ?_ ?_
    rotate_left
    ·show Act.put _ (some 33) _ = _
     simp only [Act.put, zL, zM, zN, i64_w, i32_w]
     rfl
    refine zp 11 (some 34) #[true, true, true, true, true, true, true, true, true, true, true, true, true, true, true, true, true, true, true, false, false, true, true, true, false, false, false, false, false, false] HT_.out ?_
    refine one_ (i := 19) (N := some 42) #[true, true, true, true, true, true, true, true, true, true, true, true, true, true, true, true, true, true, true, true, false, true, true, true, false, false, false, false, false, false] rfl rfl (one_of HT_.out (by kernel_rfl)) (by decide) (fun K hK => ?_)
    refine goes_ Tryd.func71 (by kernel_rfl) rfl #[.int .i64 t256] (by rfl) rfl rfl zg ?_
    with_reducible refine (spec_l01One.calls t256 t290 _ A65.out).mono ?_
    rintro e w' ⟨rfl, ⟨nd, rfl⟩⟩
    refine ⟨_, rfl, ?_⟩
    refine hK.out _ _ ⟨(kV BK262.out 0).trans rfl, (kV BK262.out 1).trans rfl, hHeld.2.2.1, hHeld.2.2.2⟩ (fun hHeld => ?_)
    clear hK K
    refine norm_ (a' := ?_) ?_ ?_
    rotate_left
    ·show Act.put _ (some 42) _ = _
     simp only [Act.put, zL, zM, zN, i64_w, i32_w]
     rfl
    refine zp 20 (some 43) #[true, true, true, true, true, true, true, true, true, true, true, true, true, true, true, true, true, true, true, true, true, true, true, true, false, false, false, false, false, false] HT_.out ?_
    refine one_ (i := 24) (N := some 47) #[true, true, true, true, true, true, true, true, true, true, true, true, true, true, true, true, true, true, true, true, true, true, true, true, true, false, false, false, false, false] rfl rfl (one_of HT_.out (by kernel_rfl)) (by decide) (fun K hK => ?_)
    refine goes_ Tryd.func71 (by kernel_rfl) rfl #[.int .i64 t256] (by rfl) rfl rfl zg ?_
    with_reducible refine (spec_l01One.calls t256 t291 _ A66.out).mono ?_
    rintro e w' ⟨rfl, ⟨nd, rfl⟩⟩
    refine ⟨_, rfl, ?_⟩
    refine hK.out _ _ ⟨(kV BK262.out 0).trans rfl, (kV BK262.out 1).trans rfl, hHeld.2.2.1, hHeld.2.2.2⟩ (fun hHeld => ?_)
    clear hK K
    refine norm_ (a' := ?_) ?_ ?_
    rotate_left
    ·show Act.put _ (some 47) _ = _
     simp only [Act.put, zL, zM, zN, i64_w, i32_w]
     rfl
    refine one_ (i := 25) (N := some 48) #[true, true, true, true, true, true, true, true, true, true, true, true, true, true, true, true, true, true, true, true, true, true, true, true, true, true, false, false, false, false] rfl rfl (one_of HT_.out (by kernel_rfl)) (by decide) (fun K hK => ?_)
    refine goes_ Tryd.func51 (by kernel_rfl) rfl #[.pointer (some ⟨g, 0, none⟩), .int .i64 t291] (by rfl) rfl rfl zg ?_
    with_reducible refine (spec_l01Next.calls g s0_0 t285 t286 t291 t292 t293 t294 w0 _ ?side1 ?side2 A67.out).mono ?_
    (case side1 => exact Z98.uC HI0.out NB0_255.out NB0_262.out)
    (case side2 => exact zW HB.out (Z98.ge HI0.out) GE255.out GE262.out)
    rintro e w82 ⟨rfl, hi, hb, hk⟩
    have HS2_ := keep_cell hk (hHeld.2.2.1) (by first | (rw [add_block]; exact Kd.own_blk (Z98.own_ne HI0.out HO259.out (by decide))) | (show (Addr.add _ _).block ≠ _; rw [add_block]; exact Kd.own_blk (Z98.own_ne HI0.out HO259.out (by decide))) | exact Kd.own_blk (Z98.own_ne HI0.out HO259.out (by decide)))
    have HS3_ := keep_cell hk (hHeld.2.2.2) (by first | (rw [add_block]; exact Kd.own_blk (Z98.own_ne HI0.out HO259.out (by decide))) | (show (Addr.add _ _).block ≠ _; rw [add_block]; exact Kd.own_blk (Z98.own_ne HI0.out HO259.out (by decide))) | exact Kd.own_blk (Z98.own_ne HI0.out HO259.out (by decide)))
    refine ⟨_, rfl, ?_⟩
    replace BK255 := zA (zB2 hk BK255.out NB255_0.out)
    replace HO259 := zA (zB9 (Z98.apart (show Z98 w0 _ g s0_0 t285 t286 from Z98.uC HI0.out NB0_255.out NB0_262.out) (zP HO259.out) (by decide)) hk)
    replace BK262 := zA (zB2 hk BK262.out NB262_0.out)
    replace HK := zA (kT (yC HK.out GW255.out GW262.out) hk (.inl rfl))
    replace HB := zA (hb)
    replace HI0 := zA (hi)
    (try clear hb)
    (try clear hb2)
    (try clear hk)
    (try clear hi)
    (try clear hgw)
    refine hK.out _ _ ⟨(kV BK262.out 0).trans rfl, (kV BK262.out 1).trans rfl, HS2_, HS3_⟩ (fun hHeld => ?_)
    clear hK K
    refine norm_ (a' := ?_) ?_ ?_
    rotate_left
    ·show Act.put _ (some 48) _ = _
     simp only [Act.put, zL, zM, zN, i64_w, i32_w]
     rfl
    refine one_ (i := 26) (N := some 49) #[true, true, true, true, true, true, true, true, true, true, true, true, true, true, true, true, true, true, true, true, true, true, true, true, true, true, true, false, false, false] rfl rfl (one_of HT_.out (by kernel_rfl)) (by decide) (fun K hK => ?_)
    refine Kd.R_lit_step (Kd.int .i64) _ 2 ?hg (N := 49) ?hd (xs := ([wrap64 ((rd t257 t284) - t288), Go.bits .or .i64 (rd t257 t284) t290, t292, (-1)] : List Int)) (inner := [.int .i64 (wrap64 ((rd t257 t284) - t288)), .int .i64 (Go.bits .or .i64 (rd t257 t284) t290), .int .i64 t292, .int .i64 (-1)]) (ok := fun _ => True) (okp := fun _ => True) ?hr ?hp (fun _ hk => hk) trivial (kW _ _) (Nat.le_refl _) (by simp) ?_; (case hd => rfl); (case hg => rfl); (case hr => first | (go_simp; done) | (go_simp; rfl)); (case hp => exact (Reps.one (show Kd.M (Kd.int .i64) _ _ _ (wrap64 ((rd t257 t284) - t288)) [.int .i64 (wrap64 ((rd t257 t284) - t288))] from rfl) (Reps.one (show Kd.M (Kd.int .i64) _ _ _ (Go.bits .or .i64 (rd t257 t284) t290) [.int .i64 (Go.bits .or .i64 (rd t257 t284) t290)] from rfl) (Reps.one (show Kd.M (Kd.int .i64) _ _ _ t292 [.int .i64 t292] from rfl) (Reps.one (show Kd.M (Kd.int .i64) _ _ _ (-1) [.int .i64 (-1)] from rfl) (Reps.none _ _))))))
    intro v296 w83 ho84 hb hg_ hnew_
    have HS2_ := (hb.cell (jG _ _ (hHeld.2.2.1))).trans (hHeld.2.2.1)
    have HS3_ := (hb.cell (jG _ _ (hHeld.2.2.2))).trans (hHeld.2.2.2)
    clear hg_ hnew_
    (first | rw [← Ny295.out] at ho84 | (simp only [Int.reduceToNat] at ho84; rw [← Ny295.out] at ho84))
    have HO297 := zA (kI (kF ho84 (kH (zP HO259.out))) (kX (w := w) (g := g) (row := none) (yC HK.out GW255.out GW262.out)))
    replace HO259 := zA (kE (zP HO259.out) (kC ho84) hb)
    replace BK255 := zA (zB1 BK255.out hb)
    replace BK262 := zA (zB1 BK262.out hb)
    replace HK := zA (kT (yC HK.out GW255.out GW262.out) (kU hb g none) (.inl rfl))
    replace HB := zA (kQ (zW HB.out (Z98.ge HI0.out) GE255.out GE262.out) hb)
    replace HI0 := zA (Z98.below (Z98.uC HI0.out NB0_255.out NB0_262.out) hb)
    clear hb ho84
    obtain ⟨Ao85, co85, eo85⟩ := kM HO297.out
    (first | subst eo85 | (injection eo85 with f1_ f2_ f3_; have f4_ := f1_.symm; have f5_ := f3_.symm; clear f1_ f2_ f3_; subst f4_; subst f5_))
    refine hK.out _ _ ⟨(kV BK262.out 0).trans rfl, (kV BK262.out 1).trans rfl, HS2_, HS3_⟩ (fun hHeld => ?_)
    clear hK K
    refine norm_ (a' := ?_) ?_ ?_
    rotate_left
    ·show Act.put _ (some 49) _ = _
     simp only [Act.put, zL, zM, zN, i64_w, i32_w]
     rfl
    refine one_ (i := 27) (N := some 50) #[true, true, true, true, true, true, true, true, true, true, true, true, true, true, true, true, true, true, true, true, true, true, true, true, true, true, true, true, false, false] rfl rfl (one_of HT_.out (by kernel_rfl)) (by decide) (fun K hK => ?_)
    refine goes_ Tryd.func68 (by kernel_rfl) rfl #[.pointer (some ⟨g, 0, none⟩), .slice Ao85 y295.length co85] (by rfl) rfl rfl zg ?_
    with_reducible refine (spec_l01Pick.calls g s0_0 t293 t294 _ _ y295 t298 t299 t300 w0 _ ?side1 ?side2 ?side3 ?side4 ?side5 A68.out).mono ?_
    (case side1 => exact Z98.uC HI0.out NB0_255.out NB0_262.out)
    (case side2 => exact zW HB.out (Z98.ge HI0.out) GE255.out GE262.out)
    (case side3 => exact zS (kB HO297.out).2.2)
    (case side4 => exact (kB HO297.out).2.1)
    (case side5 => exact jJ (Z98.own_ne HI0.out HO297.out (by decide)))
    rintro e w86 ⟨rfl, hi, hb, hk⟩
    have HS2_ := keep_cell hk (hHeld.2.2.1) (by first | (rw [add_block]; exact Kd.own_blk (Z98.own_ne HI0.out HO259.out (by decide))) | (show (Addr.add _ _).block ≠ _; rw [add_block]; exact Kd.own_blk (Z98.own_ne HI0.out HO259.out (by decide))) | exact Kd.own_blk (Z98.own_ne HI0.out HO259.out (by decide)))
    have HS3_ := keep_cell hk (hHeld.2.2.2) (by first | (rw [add_block]; exact Kd.own_blk (Z98.own_ne HI0.out HO259.out (by decide))) | (show (Addr.add _ _).block ≠ _; rw [add_block]; exact Kd.own_blk (Z98.own_ne HI0.out HO259.out (by decide))) | exact Kd.own_blk (Z98.own_ne HI0.out HO259.out (by decide)))
    refine ⟨_, rfl, ?_⟩
    replace BK255 := zA (zB2 hk BK255.out NB255_0.out)
    replace HO259 := zA (zB9 (Z98.apart (show Z98 w0 _ g s0_0 t293 t294 from Z98.uC HI0.out NB0_255.out NB0_262.out) (zP HO259.out) (by decide)) hk)
    replace BK262 := zA (zB2 hk BK262.out NB262_0.out)
    replace HO297 := zA (zB9 (Z98.apart (show Z98 w0 _ g s0_0 t293 t294 from Z98.uC HI0.out NB0_255.out NB0_262.out) (zP HO297.out) (by decide)) hk)
    replace HK := zA (kT (yC HK.out GW255.out GW262.out) hk (.inl rfl))
    replace HB := zA (hb)
    replace HI0 := zA (hi)
    (try clear hb)
    (try clear hb2)
    (try clear hk)
    (try clear hi)
    (try clear hgw)
    have p69 : 0 ≤ (t284 : Int) := zd
    have q69 : (t284 : Int) < ((t257.length : Int) : Int) := zd
    obtain ⟨go69, co69, eo69, gb69, gl69, cl69, HG69⟩ := Kd.R_form HO259.out (by omega)
    (first | cases eo69 | (injection eo69 with ea_ en_ ec_; (first | subst ea_ | (injection ea_ with ea_; subst ea_)); subst ec_; clear en_))
    have GB69 := zA gb69
    have GG69 := zA HG69
    clear gb69 gl69 HG69
    (first | simp only [add_plain] at hx287_0 | skip)
    (first | simp only [add_plain] at hx289_0 | skip)
    obtain ⟨hx69_0, hf69_0⟩ := Kd.R_celln 0 HO259.out (t284 : Int) p69 q69
    replace p69 := eq_true p69
    replace q69 := eq_true q69
    have HN0_go69 := zA (show g ≠ go69 from by have h_ := Z98.own_ne HI0.out HO259.out (by decide); intro e_; exact h_ (by rw [e_]; rfl))
    have HP87 := Kd.R_putn HO259.out (t284 : Int) t298
    rw [← Ny301.out] at HP87
    have HQ87 := zA HP87
    clear HP87
    refine hK.out _ _ ⟨(kV BK262.out 0).trans rfl, (kV BK262.out 1).trans rfl, HS2_, HS3_⟩ (fun hHeld => ?_)
    clear hK K
    refine norm_ (a' := ?_) ?_ ?_
    rotate_left
    ·show Act.put _ (some 50) _ = _
     simp only [Act.put, zL, zM, zN, i64_w, i32_w]
     rfl
    refine zp 28 (some 51) #[true, true, true, true, true, true, true, true, true, true, true, true, true, true, true, true, true, true, true, true, true, true, true, true, true, true, true, true, true, false] HT_.out ?_
    refine last_ (i := 29) (N := none) #[true, true, true, true, true, true, true, true, true, true, true, true, true, true, true, true, true, true, true, true, true, true, true, true, true, true, true, true, true, true] rfl rfl (one_of HT_.out (by kernel_rfl)) (by decide) (fun K hK => ?_)
    refine skip_ (w1 := ?_) (by rfl) rfl ?_ ?_
    rotate_left
    ·go_simp
     rfl
    refine hK.out _ _ ?_
    clear hK K
    refine done_ (done_of HT_.out (by kernel_rfl)) ?_
    have n0_ : Aside0 (Kd.R (Kd.int .i64) 2 (w86.setCell ⟨go69, (t284 : Int).toNat, none⟩ (.int .i64 t298)) w.heap.size (fun k_ => some k_ ≠ (.slice Ao85 y295.length co85 : Value).ownBlock) (.slice (some ⟨go69, 0, none⟩) t257.length co76) y301) := ⟨zPM HQ87.out (fun _ hk => hk.2)⟩
    have n1_ : Aside0 (Kd.R (Kd.int .i64) 2 (w86.setCell ⟨go69, (t284 : Int).toNat, none⟩ (.int .i64 t298)) w.heap.size (fun k_ => some k_ ≠ (.slice (some ⟨go69, 0, none⟩) t257.length co76 : Value).ownBlock) (.slice Ao85 y295.length co85) y295) := ⟨by (with_reducible repeat (first | apply zF | apply zG | apply zH)); exact kA (kY (p := ⟨go69, (t284 : Int).toNat, none⟩) (kA HO297.out (fun k_ hk => (⟨hk, fun e_ => hk.2 (by rw [e_]; rfl)⟩ : _ ∧ k_ ≠ go69))) (fun _ hk => hk.2) (.int .i64 t298)) (fun _ hk => hk.1.2)⟩
    have n2_ : Aside0 ((w86.setCell ⟨go69, (t284 : Int).toNat, none⟩ (.int .i64 t298)).heap[gb255]? = some (.cells #[.int .i64 0, .slice none 0 0] 26 (0, 0))) := ⟨by (with_reducible repeat (first | refine zJ ?_ _ | refine zK ?_ | refine zI ?_ _)); refine blk_far ?_ (by have h_ := Kd.R_ne HO259.out BK255.out (by decide); intro e_; exact h_ (by rw [e_]; rfl)) _; (with_reducible repeat (first | refine zJ ?_ _ | refine zK ?_ | refine zI ?_ _)); exact BK255.out⟩
    have n3_ : Aside0 ((w86.setCell ⟨go69, (t284 : Int).toNat, none⟩ (.int .i64 t298)).heap[gb262]? = some (.cells #[.int .i64 t256, .slice (some ⟨go69, 0, none⟩) t257.length co76] 26 (0, 0))) := ⟨by (with_reducible repeat (first | refine zJ ?_ _ | refine zK ?_ | refine zI ?_ _)); refine blk_far ?_ (by have h_ := Kd.R_ne HO259.out BK262.out (by decide); intro e_; exact h_ (by rw [e_]; rfl)) _; (with_reducible repeat (first | refine zJ ?_ _ | refine zK ?_ | refine zI ?_ _)); exact BK262.out⟩
    have n4_ : Aside0 (Z98 w0 (w86.setCell ⟨go69, (t284 : Int).toNat, none⟩ (.int .i64 t298)) g s0_0 t299 t300) := ⟨by repeat (first | (with_reducible first | exact HI0.out | apply Z98.alloc | apply Z98.drewN | apply Z98.drew | apply Z98.set_1 | apply Z98.set_2 | refine Z98.far ?_ HN0_go69.out _ | refine Z98.far ?_ NB0_255.out _ | refine Z98.far ?_ NB0_262.out _) | exact HI0.out)⟩
    have n5_ : Aside0 (KeepBut w (w86.setCell ⟨go69, (t284 : Int).toNat, none⟩ (.int .i64 t298)) g none) := ⟨by repeat (first | (with_reducible first | exact HK.out | apply KeepBut.set_ | apply keep_drewN | apply keep_drew | apply keep_alloc | refine keep_far ?_ GB69.out _ | refine keep_far ?_ GW255.out _ | refine keep_far ?_ GW262.out _) | exact HK.out)⟩
    have n6_ : Aside0 (Below w0.heap.size w0 (w86.setCell ⟨go69, (t284 : Int).toNat, none⟩ (.int .i64 t298))) := ⟨by repeat (first | (with_reducible first | exact HB.out | apply zB | apply zC | apply zD | refine zE ?_ (Nat.le_trans HL.out GB69.out) | refine zE ?_ (Z98.ge HI0.out) | refine zE ?_ GE255.out | refine zE ?_ GE262.out) | exact HB.out)⟩
    (try clear HO259)
    (try clear HO297)
    (try clear BK255)
    (try clear BK262)
    (try clear HI0)
    (try clear HK)
    (try clear HB)
    generalize (w86.setCell ⟨go69, (t284 : Int).toNat, none⟩ (.int .i64 t298)) = w88 at n0_ n1_ n2_ n3_ n4_ n5_ n6_ ⊢
    have HO259 := n0_
    have HO297 := n1_
    have BK255 := n2_
    have BK262 := n3_
    have HI0 := n4_
    have HK := n5_
    have HB := n6_
    clear n0_ n1_ n2_ n3_ n4_ n5_ n6_
    obtain ⟨hcz89_0, hcz89_1, hfz89_0, hfz89_1⟩ := zB3 BK262.out
    have hnb90 := NB255_0.out
    have hnc90 := NB0_255.out
    obtain ⟨hcz91_0, hcz91_1, hfz91_0, hfz91_1⟩ := zB3 BK255.out
    try go_wp2
    refine bodyPost_ret (results_cell_row rfl _ _ gb255 26 #[.int .i64 t256, .slice (some ⟨go69, 0, none⟩) t257.length co76] (0, 0) _ rfl (zRP BK255.out) Tryd.underlying26 rfl (by kernel_rfl)) rfl ?_
    exact ⟨_, zr, by (with_reducible repeat (first | apply zF | apply zG | apply zH)); exact kA (kY (p := ⟨gb255, 1, none⟩) (kY (p := ⟨gb255, 0, none⟩) (kD HO259.out BK255.out (by decide)) (fun _ hk => hk.2) (.int .i64 t256)) (fun _ hk => hk.2) (.slice (some ⟨go69, 0, none⟩) t257.length co76)) (fun _ hk => trivial), by repeat (first | (with_reducible first | exact HI0.out | apply Z98.alloc | apply Z98.drewN | apply Z98.drew | apply Z98.set_1 | apply Z98.set_2 | refine Z98.far ?_ NB0_255.out _ | refine Z98.far ?_ NB0_262.out _) | exact HI0.out), zW HB.out (Z98.ge HI0.out) GE255.out GE262.out, by repeat (first | (with_reducible first | exact HK.out | apply KeepBut.set_ | apply keep_drewN | apply keep_drew | apply keep_alloc | refine keep_far ?_ GW255.out _ | refine keep_far ?_ GW262.out _) | exact HK.out)⟩
   rw [if_neg c63] at H
   exact absurd H (by simp)
  rw [if_neg c62] at H
  exact absurd H (by simp)
 rw [if_neg c60] at H
 have c60b0 : decide (0 < t256) = false := decide_eq_false c60
 clear c60
 simp only [Option.some.injEq, Prod.mk.injEq] at H
 obtain ⟨rfl, rfl, rfl, rfl⟩ := H
 go_enter Tryd.func45, Tryd.ntmps45
 go_wp2_with (first | (refine zBE 4 #[.int .i64 0, .slice none 0 0] 26 ?_; intro gb255 hg w92 hbox hb; replace HB := zA (kQ (zT HB.out (Z98.ge HI0.out)) hb); have BK255 := zA (hbox); have GW255 := zA (zB6 hg (kX (w := w) (g := g) (row := none) (yA HK.out)) : w.heap.size ≤ gb255); have GE255 := zA ((Nat.le_trans HW0.out (by rw [hg]; exact (kX (w := w) (g := g) (row := none) (yA HK.out)) : w.heap.size ≤ gb255) : w0.heap.size ≤ gb255)); replace HK := zA (kT (yA HK.out) (kU hb g none) (.inl rfl)); have NB0_255 := zA (zB7 hg (Z98.lt (show Z98 w0 _ g s0_0 s0_1 s0_2 from Z98.uA HI0.out)) : g ≠ gb255); have NB255_0 := zA (zB8 hg (Z98.lt (show Z98 w0 _ g s0_0 s0_1 s0_2 from Z98.uA HI0.out)) : gb255 ≠ g); replace HI0 := zA (Z98.below (Z98.uA HI0.out) hb); clear hb hbox hg) | (refine zO (some 9) Tryd.func83 #[.pointer (some ⟨g, 0, none⟩), .int .i64 a1] ?_; (with_reducible refine (spec_l02Draw.calls k g s0_0 s0_1 s0_2 a1 t256 t257 t260 t261 w0 _ ?side1 ?side2 A3.out).mono ?_); (case side1 => exact Z98.uB HI0.out NB0_255.out); (case side2 => exact zV HB.out (Z98.ge HI0.out) GE255.out); rintro e w93 ⟨v258, rfl, ho0, hi, hb, hk⟩; refine ⟨_, rfl, ?_⟩; replace BK255 := zA (zB2 hk BK255.out NB255_0.out); have HO259 := zA (kI ho0 (kX (w := w) (g := g) (row := none) (yB HK.out GW255.out))); replace HK := zA (kT (yB HK.out GW255.out) hk (.inl rfl)); replace HB := zA (hb); replace HI0 := zA (hi); (try clear hb); (try clear hk); (try clear hi); (try clear ho0)) | (refine zBE 5 #[.int .i64 0, .slice none 0 0] 26 ?_; intro gb262 hg w94 hbox hb; replace HO259 := zA (kL (zP HO259.out) hb); replace HB := zA (kQ (zV HB.out (Z98.ge HI0.out) GE255.out) hb); have BK262 := zA (hbox); have GW262 := zA (zB6 hg (kX (w := w) (g := g) (row := none) (yB HK.out GW255.out)) : w.heap.size ≤ gb262); have GE262 := zA ((Nat.le_trans HW0.out (by rw [hg]; exact (kX (w := w) (g := g) (row := none) (yB HK.out GW255.out)) : w.heap.size ≤ gb262) : w0.heap.size ≤ gb262)); replace HK := zA (kT (yB HK.out GW255.out) (kU hb g none) (.inl rfl)); have NB255_262 := zA (zB4 hg BK255.out : gb255 ≠ gb262); have NB262_255 := zA (zB5 hg BK255.out : gb262 ≠ gb255); replace BK255 := zA (zB1 BK255.out hb); have NB0_262 := zA (zB7 hg (Z98.lt (show Z98 w0 _ g s0_0 t260 t261 from Z98.uB HI0.out NB0_255.out)) : g ≠ gb262); have NB262_0 := zA (zB8 hg (Z98.lt (show Z98 w0 _ g s0_0 t260 t261 from Z98.uB HI0.out NB0_255.out)) : gb262 ≠ g); replace HI0 := zA (Z98.below (Z98.uB HI0.out NB0_255.out) hb); clear hb hbox hg; have hnb95 := NB262_255.out; have hnc95 := NB255_262.out; have hnb96 := NB262_0.out; have hnc96 := NB0_262.out; obtain ⟨hcz97_0, hcz97_1, hfz97_0, hfz97_1⟩ := zB3 BK262.out; obtain ⟨Ao98, co98, eo98⟩ := kM HO259.out; subst eo98) | (refine zO (some 11) Tryd.func51 #[.pointer (some ⟨g, 0, none⟩), .int .i64 14] ?_; (with_reducible refine (spec_l01Next.calls g s0_0 t260 t261 14 t263 t264 t265 w0 _ ?side1 ?side2 A4.out).mono ?_); (case side1 => exact Z98.uC HI0.out NB0_255.out NB0_262.out); (case side2 => exact zW HB.out (Z98.ge HI0.out) GE255.out GE262.out); rintro e w99 ⟨rfl, hi, hb, hk⟩; refine ⟨_, rfl, ?_⟩; replace BK255 := zA (KeepBut.blk hk (g' := gb255) (o := .cells #[.int .i64 0, .slice none 0 0] 26 (0, 0)) (zBG BK255.out NB255_262.out NB255_262.out) NB255_0.out (by simp)); replace HO259 := zA (kA (Kd.R_keep (Z98.apart (show Z98 w0 _ g s0_0 t260 t261 from Z98.uC HI0.out NB0_255.out NB0_262.out) (zP (zFG HO259.out BK262.out (.int .i64 t256) (.slice Ao98 t257.length co98))) (by decide)) hk (fun _ h => h.2)) (fun _ h => h.1)); replace BK262 := zA (KeepBut.blk hk (g' := gb262) (o := .cells #[.int .i64 t256, .slice Ao98 t257.length co98] 26 (0, 0)) (zRP BK262.out) NB262_0.out (by simp)); replace HK := zA (kT (yC HK.out GW255.out GW262.out) hk (.inl rfl)); replace HB := zA (hb); replace HI0 := zA (hi); (try clear hb); (try clear hk); (try clear hi)) | (refine zO (some 15) Tryd.func51 #[.pointer (some ⟨g, 0, none⟩), .int .i64 4] ?_; (with_reducible refine (spec_l01Next.calls g s0_0 t264 t265 4 t266 t267 t268 w0 _ ?side1 ?side2 A17.out).mono ?_); (case side1 => exact Z98.uC HI0.out NB0_255.out NB0_262.out); (case side2 => exact zW HB.out (Z98.ge HI0.out) GE255.out GE262.out); rintro e w100 ⟨rfl, hi, hb, hk⟩; refine ⟨_, rfl, ?_⟩; replace BK255 := zA (zB2 hk BK255.out NB255_0.out); replace HO259 := zA (zB9 (Z98.apart (show Z98 w0 _ g s0_0 t264 t265 from Z98.uC HI0.out NB0_255.out NB0_262.out) (zP HO259.out) (by decide)) hk); replace BK262 := zA (zB2 hk BK262.out NB262_0.out); replace HK := zA (kT (yC HK.out GW255.out GW262.out) hk (.inl rfl)); replace HB := zA (hb); replace HI0 := zA (hi); (try clear hb); (try clear hk); (try clear hi); obtain ⟨hcz101_0, hcz101_1, hfz101_0, hfz101_1⟩ := zB3 BK262.out; have hnb102 := NB255_0.out; have hnc102 := NB0_255.out; obtain ⟨hcz103_0, hcz103_1, hfz103_0, hfz103_1⟩ := zB3 BK255.out))
 refine bodyPost_ret (results_cell_row rfl _ _ gb255 26 #[.int .i64 t256, .slice Ao98 t257.length co98] (0, 0) _ rfl (zRP BK255.out) Tryd.underlying26 rfl (by kernel_rfl)) rfl ?_
 exact ⟨_, zr, by (with_reducible repeat (first | apply zF | apply zG | apply zH)); exact kA (kY (p := ⟨gb255, 1, none⟩) (kY (p := ⟨gb255, 0, none⟩) (kD HO259.out BK255.out (by decide)) (fun _ hk => hk.2) (.int .i64 t256)) (fun _ hk => hk.2) (.slice Ao98 t257.length co98)) (fun _ hk => trivial), by repeat (first | (with_reducible first | exact HI0.out | apply Z98.alloc | apply Z98.drewN | apply Z98.drew | apply Z98.set_1 | apply Z98.set_2 | refine Z98.far ?_ NB0_255.out _ | refine Z98.far ?_ NB0_262.out _) | exact HI0.out), zW HB.out (Z98.ge HI0.out) GE255.out GE262.out, by repeat (first | (with_reducible first | exact HK.out | apply KeepBut.set_ | apply keep_drewN | apply keep_drew | apply keep_alloc | refine keep_far ?_ GW255.out _ | refine keep_far ?_ GW262.out _) | exact HK.out)⟩

/-! ### spec_l01In: function 70 -/
def spec_l01In.f (a0 : Int) (a1 : Int) (a2 : Int) : Option (Bool) := if a0 ≥ a1 then (some (decide (a0 ≤ a2))) else (some false)
set_option maxHeartbeats 8000000 in
set_option maxRecDepth 100000 in
theorem spec_l01In.calls (a0 : Int) (a1 : Int) (a2 : Int) (r : Bool) (w : World) (h : spec_l01In.f a0 a1 a2 = some r) :
  Calls Tryd.prog 70 #[.int .i64 a0, .int .i64 a1, .int .i64 a2] w fun e w' => e = .returned (.bool r) ∧ Drawn0 w w' := by
 have H := h
 unfold spec_l01In.f at H
 clear h
 by_cases c4 : a0 ≥ a1
 ·rw [if_pos c4] at H
  have c4b0 : decide (a1 ≤ a0) = true := decide_eq_true c4
  clear c4
  obtain rfl := Option.some.inj H
  go_enter Tryd.func70, Tryd.ntmps70
  go_wp2
  go_ret
  exact ⟨zs, by repeat (first | exact Drawn0.refl _ | apply Drawn0.step)⟩
 rw [if_neg c4] at H
 have c4b0 : decide (a1 ≤ a0) = false := decide_eq_false c4
 clear c4
 obtain rfl := Option.some.inj H
 go_enter Tryd.func70, Tryd.ntmps70
 go_wp2
 go_ret
 exact ⟨zs, by repeat (first | exact Drawn0.refl _ | apply Drawn0.step)⟩

/-! ### spec_l01Bit: function 72 -/
def spec_l01Bit.f (a0 : Int) (a1 : Int) : Option (Bool) := if 0 ≤ (IntKind.u64.wrap (a1)) then (some ((Go.bits .and .i64 (shr .i64 a0 (IntKind.u64.wrap (a1))) 1) == 1)) else (none)
set_option maxHeartbeats 8000000 in
set_option maxRecDepth 100000 in
theorem spec_l01Bit.calls (a0 : Int) (a1 : Int) (r : Bool) (w : World) (h : spec_l01Bit.f a0 a1 = some r) :
  Calls Tryd.prog 72 #[.int .i64 a0, .int .i64 a1] w fun e w' => e = .returned (.bool r) ∧ Drawn0 w w' := by
 have H := h
 unfold spec_l01Bit.f at H
 clear h
 obtain ⟨ji3, hji3⟩ : ∃ j_ : Int, (IntKind.u64.wrap (a1)) = j_ := ⟨_, rfl⟩
 replace H : (if 0 ≤ (ji3) then (some ((Go.bits .and .i64 (shr .i64 a0 (ji3)) 1) == 1)) else (none)) = some r := by first | (rw [hji3] at H; exact H) | (simp only [hji3] at H ⊢; exact H)
 by_cases c4 : 0 ≤ (ji3)
 ·rw [if_pos c4] at H
  have c4b0 := eq_true c4
  have c4b1 : decide (0 ≤ (ji3)) = true := decide_eq_true c4
  clear c4
  obtain ⟨ji5, hji5⟩ : ∃ j_ : Int, (shr .i64 a0 (ji3)) = j_ := ⟨_, rfl⟩
  replace H : (some ((Go.bits .and .i64 (ji5) 1) == 1)) = some r := by first | (rw [hji5] at H; exact H) | (simp only [hji5] at H ⊢; exact H)
  have hji5_ : (a0 / 2 ^ min (ji3).toNat 64) = ji5 := hji5
  have hji5z : (ji3) ≤ 64 → (a0 / 2 ^ (ji3).toNat) = ji5 := shr_small hji5
  obtain rfl := Option.some.inj H
  go_enter Tryd.func72, Tryd.ntmps72
  go_wp2
  go_ret
  exact ⟨by first | rfl | (simp; done) | (simp only [← hji3, ← hji5] <;> (first | rfl | simp)) | (simp [*]; done), by repeat (first | exact Drawn0.refl _ | apply Drawn0.step)⟩
 rw [if_neg c4] at H
 exact absurd H (by simp)

/-! ### spec_l01Full: function 110 -/
def spec_l01Full.f (a0 : Int) : Option (Int) := (spec_l01One.f a0).bind fun t302 => (some (wrap64 (t302 - 1)))
set_option maxHeartbeats 8000000 in
set_option maxRecDepth 100000 in
theorem spec_l01Full.calls (a0 : Int) (r : Int) (w : World) (h : spec_l01Full.f a0 = some r) :
  Calls Tryd.prog 110 #[.int .i64 a0] w fun e w' => e = .returned (.int .i64 r) ∧ Drawn0 w w' := by
 have H := h
 unfold spec_l01Full.f at H
 clear h
 obtain ⟨t302, A2, H⟩ := zb H
 try dsimp only at H
 obtain rfl := Option.some.inj H
 go_enter Tryd.func110, Tryd.ntmps110
 go_wp2_with (first | (refine zO (some 4) Tryd.func71 #[.int .i64 a0] ?_; (with_reducible refine (spec_l01One.calls a0 t302 _ A2.out).mono ?_); rintro e w' ⟨rfl, ⟨nd, rfl⟩⟩; refine ⟨_, rfl, ?_⟩))
 go_ret
 exact ⟨zs, by repeat (first | exact Drawn0.refl _ | apply Drawn0.step)⟩

/-! ### spec_l01Masks: function 109 -/
def spec_l01Masks.l0 : Nat → Int → List Int → Int → Option (Bool)
 | 0, _, _, _ => none
 | k + 1, x0, x1, x5 => if x5 < (x1.length : Int) then (if 0 ≤ x5 then ((spec_l01Full.f x0).bind fun t304 => ((spec_l01In.f (rd x1 x5) 0 t304).bind fun t305 => (if t305 = true then (spec_l01Masks.l0 k x0 x1 (wrap64 (x5 + 1))) else (some false)))) else (none)) else (some true)
def spec_l01Masks.f (k : Nat) (a0 : Int) (l1 : List Int) : Option (Bool) := spec_l01Masks.l0 k a0 l1 0

set_option maxHeartbeats 8000000 in
set_option maxRecDepth 100000 in
theorem spec_l01Masks.calls (k : Nat) (a0 : Int) (A1 : Option Addr) (c1 : Nat) (l1 : List Int) (r : Bool) (w : World) (hr1 : Kd.C (Kd.int .i64) w A1 l1.length l1) (hc1 : l1.length ≤ c1) (h : spec_l01Masks.f k a0 l1 = some r) :
  Calls Tryd.prog 109 #[.int .i64 a0, .slice A1 l1.length c1] w fun e w' => e = .returned (.bool r) ∧ Drawn0 w w' := by
 have HR1 := zA hr1
 have HC1 := zA hc1
 clear hr1 hc1
 have H := h
 unfold spec_l01Masks.f at H
 clear h
 have H' := zA H
 clear H
 go_enter Tryd.func109, Tryd.ntmps109
 go_wp2
 repeat (go_quiet (fail); try go_wp2)
 go_loopg [5] k (fun kq v5 w' => ∃ (x5_1 : Int), v5 = .int .i64 x5_1 ∧ Aside0 (spec_l01Masks.l0 kq a0 l1 x5_1 = some r) ∧ Aside0 (kq ≤ k) ∧ Drawn0 w w')
 case atStart => exact ⟨(0), zs, H', ⟨Nat.le_refl _⟩, by repeat (first | exact Drawn0.refl _ | apply Drawn0.step)⟩
 case round =>
  clear H'
  try clear c1
  obtain ⟨x5_1, rfl, HA, HK1, ⟨m1, rfl⟩⟩ := hrel
  cases gk with
  | zero => exact absurd HA.out (by simp [spec_l01Masks.l0])
  | succ k1 =>
   have H := HA.out
   clear HA
   simp only [spec_l01Masks.l0] at H
   by_cases c3 : x5_1 < (l1.length : Int)
   ·rw [if_pos c3] at H
    have c3b0 : decide (x5_1 < (l1.length : Int)) = true := decide_eq_true c3
    clear c3
    by_cases c4 : 0 ≤ x5_1
    ·rw [if_pos c4] at H
     have c4b0 : decide (0 ≤ x5_1) = true := decide_eq_true c4
     clear c4
     obtain ⟨t304, A5, H⟩ := zb H
     try dsimp only at H
     obtain ⟨t305, A6, H⟩ := zb H
     try dsimp only at H
     by_cases c7 : t305 = true
     ·subst c7
      rw [if_pos rfl] at H
      have H' := zA H
      clear H
      have p303 : 0 ≤ (x5_1 : Int) := zd
      have q303 : x5_1 < (l1.length : Int) := zd
      obtain ⟨ad303, e303, hx303_0⟩ := Kd.at_int HR1.out x5_1 p303 q303
      cases e303
      replace p303 := eq_true p303
      replace q303 := eq_true q303
      go_wp2_with (first | (go_at_call 110; (with_reducible refine (spec_l01Full.calls a0 t304 _ A5.out).mono ?_); rintro e w' ⟨rfl, ⟨nd, rfl⟩⟩; (try exact zw)) | (go_at_call 70; (with_reducible refine (spec_l01In.calls (rd l1 x5_1) 0 t304 true _ A6.out).mono ?_); rintro e w' ⟨rfl, ⟨nd, rfl⟩⟩; (try exact zw)))
      repeat (go_quiet (first | (go_at_call 110; (with_reducible refine (spec_l01Full.calls a0 t304 _ A5.out).mono ?_); rintro e w' ⟨rfl, ⟨nd, rfl⟩⟩; (try exact zw)) | (go_at_call 70; (with_reducible refine (spec_l01In.calls (rd l1 x5_1) 0 t304 true _ A6.out).mono ?_); rintro e w' ⟨rfl, ⟨nd, rfl⟩⟩; (try exact zw))); try go_wp2_with (first | (go_at_call 110; (with_reducible refine (spec_l01Full.calls a0 t304 _ A5.out).mono ?_); rintro e w' ⟨rfl, ⟨nd, rfl⟩⟩; (try exact zw)) | (go_at_call 70; (with_reducible refine (spec_l01In.calls (rd l1 x5_1) 0 t304 true _ A6.out).mono ?_); rintro e w' ⟨rfl, ⟨nd, rfl⟩⟩; (try exact zw))))
      go_roundg k1
      case measure => have := HK1.out; omega
      case rel => exact ⟨(wrap64 (x5_1 + 1)), zs, H', ⟨by have := HK1.out; omega⟩, by repeat (first | exact Drawn0.refl _ | apply Drawn0.step)⟩
     replace c7 := Bool.eq_false_iff.mpr c7
     subst c7
     rw [if_neg (show ¬ (false = true) by decide)] at H
     obtain rfl := Option.some.inj H
     have p303 : 0 ≤ (x5_1 : Int) := zd
     have q303 : x5_1 < (l1.length : Int) := zd
     obtain ⟨ad303, e303, hx303_0⟩ := Kd.at_int HR1.out x5_1 p303 q303
     cases e303
     replace p303 := eq_true p303
     replace q303 := eq_true q303
     go_wp2_with (first | (go_at_call 110; (with_reducible refine (spec_l01Full.calls a0 t304 _ A5.out).mono ?_); rintro e w' ⟨rfl, ⟨nd, rfl⟩⟩; (try exact zw)) | (go_at_call 70; (with_reducible refine (spec_l01In.calls (rd l1 x5_1) 0 t304 false _ A6.out).mono ?_); rintro e w' ⟨rfl, ⟨nd, rfl⟩⟩; (try exact zw)))
     repeat (go_quiet (first | (go_at_call 110; (with_reducible refine (spec_l01Full.calls a0 t304 _ A5.out).mono ?_); rintro e w' ⟨rfl, ⟨nd, rfl⟩⟩; (try exact zw)) | (go_at_call 70; (with_reducible refine (spec_l01In.calls (rd l1 x5_1) 0 t304 false _ A6.out).mono ?_); rintro e w' ⟨rfl, ⟨nd, rfl⟩⟩; (try exact zw))); try go_wp2_with (first | (go_at_call 110; (with_reducible refine (spec_l01Full.calls a0 t304 _ A5.out).mono ?_); rintro e w' ⟨rfl, ⟨nd, rfl⟩⟩; (try exact zw)) | (go_at_call 70; (with_reducible refine (spec_l01In.calls (rd l1 x5_1) 0 t304 false _ A6.out).mono ?_); rintro e w' ⟨rfl, ⟨nd, rfl⟩⟩; (try exact zw))))
     go_ret
     exact ⟨zs, by repeat (first | exact Drawn0.refl _ | apply Drawn0.step)⟩
    rw [if_neg c4] at H
    exact absurd H (by simp)
   rw [if_neg c3] at H
   have c3b0 : decide (x5_1 < (l1.length : Int)) = false := decide_eq_false c3
   clear c3
   obtain rfl := Option.some.inj H
   go_wp2
   repeat (go_quiet (fail); try go_wp2)
   go_ret
   exact ⟨zs, by repeat (first | exact Drawn0.refl _ | apply Drawn0.step)⟩

/-! ### spec_l02Is: function 69 -/
mutual
def spec_l02Is.j0 : Nat → Bool → Int → List Int → Option (Bool)
 | 0, _, _, _ => none
 | k + 1, x24, x307000, x307001 => if x24 = true then (some false) else (spec_l02Is.l0 k 0 x307000 x307001)
def spec_l02Is.l0 : Nat → Int → Int → List Int → Option (Bool)
 | 0, _, _, _ => none
 | k + 1, x3, x307000, x307001 => if x3 < x307000 then (if 0 ≤ x3 then (if x3 < (x307001.length : Int) then ((spec_l01Bit.f (rd x307001 x3) x3).bind fun t310 => (if t310 = true then (spec_l02Is.l1 k x3 0 x307000 x307001) else (some false))) else (none)) else (none)) else (some true)
def spec_l02Is.l1 : Nat → Int → Int → Int → List Int → Option (Bool)
 | 0, _, _, _, _ => none
 | k + 1, x3, x4, x307000, x307001 => if x4 < x307000 then (if 0 ≤ x3 then (if x3 < (x307001.length : Int) then ((spec_l01Bit.f (rd x307001 x3) x4).bind fun t312 => (if 0 ≤ x4 then (if x4 < (x307001.length : Int) then ((spec_l01Bit.f (rd x307001 x4) x3).bind fun t314 => (if (t312 != t314) = true then (some false) else (spec_l02Is.l1 k x3 (wrap64 (x4 + 1)) x307000 x307001))) else (none)) else (none))) else (none)) else (none)) else (spec_l02Is.l0 k (wrap64 (x3 + 1)) x307000 x307001)
end
def spec_l02Is.f (k : Nat) (a0_0 : Int) (l0_1 : List Int) : Option (Bool) := (spec_l01In.f a0_0 0 8).bind fun t307 => (if t307 = true then (if (l0_1.length : Int) = a0_0 then ((spec_l01Masks.f k a0_0 l0_1).bind fun t308 => (spec_l02Is.j0 k (!t308) a0_0 l0_1)) else (spec_l02Is.j0 k true a0_0 l0_1)) else (spec_l02Is.j0 k true a0_0 l0_1))

set_option maxHeartbeats 8000000 in
set_option maxRecDepth 100000 in
theorem spec_l02Is.calls (k : Nat) (a0_0 : Int) (A0_1 : Option Addr) (c0_1 : Nat) (l0_1 : List Int) (r : Bool) (w : World) (hr0_1 : Kd.C (Kd.int .i64) w A0_1 l0_1.length l0_1) (hc0_1 : l0_1.length ≤ c0_1) (h : spec_l02Is.f k a0_0 l0_1 = some r) :
  Calls Tryd.prog 69 #[.agg #[.int .i64 a0_0, .slice A0_1 l0_1.length c0_1]] w fun e w' => e = .returned (.bool r) ∧ Below w.heap.size w w' := by
 have hu26 := Tryd.underlying26
 have HR0_1 := zA hr0_1
 have HC0_1 := zA hc0_1
 clear hr0_1 hc0_1
 have HB := zA (kW w.heap.size w)
 have H := h
 unfold spec_l02Is.f at H
 clear h
 have HC2 := zA H
 clear H
 go_enter Tryd.func69, Tryd.ntmps69
 go_upto_region 1 with (first | (refine zBE 1 #[.int .i64 a0_0, .slice A0_1 l0_1.length c0_1] 26 ?_; intro gb306 hg w3 hbox hb; have BK306 := zA (hbox); have GW306 := zA (zBH hg HB.out); have GE306 := zA (zBH hg HB.out); replace HB := zA (kQ (zQ HB.out) hb); clear hb hbox hg))
 repeat (go_quiet (first | (refine zBE 1 #[.int .i64 a0_0, .slice A0_1 l0_1.length c0_1] 26 ?_; intro gb306 hg w3 hbox hb; have n0_ := zA (kQ (zQ HB.out) hb); have n1_ := zA (hbox); have n2_ := zA (zBH hg HB.out); have n3_ := zA (zBH hg HB.out); clear HB; have HB := n0_; have BK306 := n1_; have GW306 := n2_; have GE306 := n3_; clear n0_ n1_ n2_ n3_; clear hb hbox hg)); go_upto_region 1 with (first | (refine zBE 1 #[.int .i64 a0_0, .slice A0_1 l0_1.length c0_1] 26 ?_; intro gb306 hg w3 hbox hb; have BK306 := zA (hbox); have GW306 := zA (zBH hg HB.out); have GE306 := zA (zBH hg HB.out); replace HB := zA (kQ (zQ HB.out) hb); clear hb hbox hg)))
 (try simp only [Act.put, zL, zM, zN])
 go_cut [24] (fun v24 wc => ∃ (kq : Nat) (x24_1 : Bool), v24 = .bool x24_1 ∧ Aside0 (spec_l02Is.j0 kq x24_1 a0_0 l0_1 = some r) ∧ Aside0 (kq ≤ k) ∧ Aside0 (wc.heap[gb306]? = some (.cells #[.int .i64 a0_0, (.slice A0_1 l0_1.length c0_1)] 26 (0, 0))) ∧ Aside0 (Below w.heap.size w wc))
 case first =>
  have H := HC2.out
  clear HC2
  obtain ⟨t307, A4, H⟩ := zb H
  try dsimp only at H
  by_cases c5 : t307 = true
  ·subst c5
   rw [if_pos rfl] at H
   by_cases c6 : (l0_1.length : Int) = a0_0
   ·rw [if_pos c6] at H
    obtain ⟨c6b0, c6b1⟩ := zT1 c6
    clear c6
    (first | rw [c6b0] | (simp only [i64_w, i32_w]; rw [c6b0]) | skip)
    obtain ⟨t308, A7, H⟩ := zb H
    try dsimp only at H
    have H' := zA H
    clear H
    obtain ⟨hcz8_0, hcz8_1, hfz8_0, hfz8_1⟩ := zB3 BK306.out
    go_wp2_with (first | (go_at_call 70; (with_reducible refine (spec_l01In.calls a0_0 0 8 true _ A4.out).mono ?_); rintro e w' ⟨rfl, ⟨nd, rfl⟩⟩; (try exact zw)) | (go_at_call 109; (with_reducible refine (spec_l01Masks.calls k a0_0 _ _ l0_1 t308 _ ?side1 ?side2 A7.out).mono ?_); (case side1 => exact zS (kO HR0_1.out (zT HB.out GE306.out))); (case side2 => exact HC0_1.out); rintro e w' ⟨rfl, ⟨nd, rfl⟩⟩; (try exact zw)))
    repeat (go_quiet (first | (go_at_call 70; (with_reducible refine (spec_l01In.calls a0_0 0 8 true _ A4.out).mono ?_); rintro e w' ⟨rfl, ⟨nd, rfl⟩⟩; (try exact zw)) | (go_at_call 109; (with_reducible refine (spec_l01Masks.calls k a0_0 _ _ l0_1 t308 _ ?side1 ?side2 A7.out).mono ?_); (case side1 => exact zS (kO HR0_1.out (zT HB.out GE306.out))); (case side2 => exact HC0_1.out); rintro e w' ⟨rfl, ⟨nd, rfl⟩⟩; (try exact zw))); try go_wp2_with (first | (go_at_call 70; (with_reducible refine (spec_l01In.calls a0_0 0 8 true _ A4.out).mono ?_); rintro e w' ⟨rfl, ⟨nd, rfl⟩⟩; (try exact zw)) | (go_at_call 109; (with_reducible refine (spec_l01Masks.calls k a0_0 _ _ l0_1 t308 _ ?side1 ?side2 A7.out).mono ?_); (case side1 => exact zS (kO HR0_1.out (zT HB.out GE306.out))); (case side2 => exact HC0_1.out); rintro e w' ⟨rfl, ⟨nd, rfl⟩⟩; (try exact zw))))
    go_meet
    case rel => exact ⟨_, (!t308), zs, H', ⟨by first | omega | exact Nat.le_refl _⟩, ⟨zR BK306.out⟩, ⟨zT HB.out GE306.out⟩⟩
   rw [if_neg c6] at H
   obtain ⟨c6b0, c6b1⟩ := zT2 c6
   (first | rw [c6b0] | (simp only [i64_w, i32_w]; rw [c6b0]) | skip)
   have H' := zA H
   clear H
   obtain ⟨hcz9_0, hcz9_1, hfz9_0, hfz9_1⟩ := zB3 BK306.out
   go_wp2_with (first | (go_at_call 70; (with_reducible refine (spec_l01In.calls a0_0 0 8 true _ A4.out).mono ?_); rintro e w' ⟨rfl, ⟨nd, rfl⟩⟩; (try exact zw)))
   repeat (go_quiet (first | (go_at_call 70; (with_reducible refine (spec_l01In.calls a0_0 0 8 true _ A4.out).mono ?_); rintro e w' ⟨rfl, ⟨nd, rfl⟩⟩; (try exact zw))); try go_wp2_with (first | (go_at_call 70; (with_reducible refine (spec_l01In.calls a0_0 0 8 true _ A4.out).mono ?_); rintro e w' ⟨rfl, ⟨nd, rfl⟩⟩; (try exact zw))))
   go_meet
   case rel => exact ⟨_, (true), zs, H', ⟨by first | omega | exact Nat.le_refl _⟩, ⟨zR BK306.out⟩, ⟨zT HB.out GE306.out⟩⟩
  replace c5 := Bool.eq_false_iff.mpr c5
  subst c5
  rw [if_neg (show ¬ (false = true) by decide)] at H
  have H' := zA H
  clear H
  obtain ⟨hcz10_0, hcz10_1, hfz10_0, hfz10_1⟩ := zB3 BK306.out
  go_wp2_with (first | (go_at_call 70; (with_reducible refine (spec_l01In.calls a0_0 0 8 false _ A4.out).mono ?_); rintro e w' ⟨rfl, ⟨nd, rfl⟩⟩; (try exact zw)))
  repeat (go_quiet (first | (go_at_call 70; (with_reducible refine (spec_l01In.calls a0_0 0 8 false _ A4.out).mono ?_); rintro e w' ⟨rfl, ⟨nd, rfl⟩⟩; (try exact zw))); try go_wp2_with (first | (go_at_call 70; (with_reducible refine (spec_l01In.calls a0_0 0 8 false _ A4.out).mono ?_); rintro e w' ⟨rfl, ⟨nd, rfl⟩⟩; (try exact zw))))
  go_meet
  case rel => exact ⟨_, (true), zs, H', ⟨by first | omega | exact Nat.le_refl _⟩, ⟨zR BK306.out⟩, ⟨zT HB.out GE306.out⟩⟩
 case rest =>
  clear HC2
  try clear c5
  try clear c6
  try clear hcz10_0
  try clear hcz10_1
  try clear hcz8_0
  try clear hcz8_1
  try clear hcz9_0
  try clear hcz9_1
  try clear hfz10_0
  try clear hfz10_1
  try clear hfz8_0
  try clear hfz8_1
  try clear hfz9_0
  try clear hfz9_1
  obtain ⟨kq, x24_1, rfl, HA, HJ1, BK306, HB⟩ := hcut
  cases kq with
  | zero => exact absurd HA.out (by simp [spec_l02Is.j0])
  | succ kj1 =>
   have H := HA.out
   clear HA
   simp only [spec_l02Is.j0] at H
   by_cases c11 : x24_1 = true
   ·subst c11
    rw [if_pos rfl] at H
    obtain rfl := Option.some.inj H
    go_wp2
    repeat (go_quiet (fail); try go_wp2)
    go_ret
    exact ⟨zr, zT HB.out GE306.out⟩
   replace c11 := Bool.eq_false_iff.mpr c11
   subst c11
   rw [if_neg (show ¬ (false = true) by decide)] at H
   have H' := zA H
   clear H
   go_wp2
   repeat (go_quiet (fail); try go_wp2)
   go_loopg [3] kj1 (fun kq v3 w' => ∃ (x3_2 : Int), v3 = .int .i64 x3_2 ∧ Aside0 (spec_l02Is.l0 kq x3_2 a0_0 l0_1 = some r) ∧ Aside0 (kq ≤ kj1) ∧ Aside0 (w'.heap[gb306]? = some (.cells #[.int .i64 a0_0, (.slice A0_1 l0_1.length c0_1)] 26 (0, 0))) ∧ Aside0 (Below w.heap.size w w'))
   case atStart => exact ⟨(0), zs, H', ⟨Nat.le_refl _⟩, ⟨zR BK306.out⟩, ⟨zT HB.out GE306.out⟩⟩
   case round =>
    clear H'
    try clear c1
    try clear c5
    try clear c6
    try clear c11
    try clear hcz10_0
    try clear hcz10_1
    try clear hcz8_0
    try clear hcz8_1
    try clear hcz9_0
    try clear hcz9_1
    try clear hfz10_0
    try clear hfz10_1
    try clear hfz8_0
    try clear hfz8_1
    try clear hfz9_0
    try clear hfz9_1
    obtain ⟨x3_2, rfl, HA, HK2, BK306, HB⟩ := hrel
    cases gk with
    | zero => exact absurd HA.out (by simp [spec_l02Is.l0])
    | succ k2 =>
     have H := HA.out
     clear HA
     simp only [spec_l02Is.l0] at H
     by_cases c12 : x3_2 < a0_0
     ·rw [if_pos c12] at H
      have c12b0 : decide (x3_2 < a0_0) = true := decide_eq_true c12
      clear c12
      by_cases c13 : 0 ≤ x3_2
      ·rw [if_pos c13] at H
       have c13b0 : decide (0 ≤ x3_2) = true := decide_eq_true c13
       clear c13
       by_cases c14 : x3_2 < (l0_1.length : Int)
       ·rw [if_pos c14] at H
        have c14b0 : decide (x3_2 < (l0_1.length : Int)) = true := decide_eq_true c14
        clear c14
        obtain ⟨t310, A15, H⟩ := zb H
        try dsimp only at H
        by_cases c16 : t310 = true
        ·subst c16
         rw [if_pos rfl] at H
         have H' := zA H
         clear H
         obtain ⟨hcz17_0, hcz17_1, hfz17_0, hfz17_1⟩ := zB3 BK306.out
         have p309 : 0 ≤ (x3_2 : Int) := zd
         have q309 : x3_2 < (l0_1.length : Int) := zd
         obtain ⟨ad309, e309, hx309_0⟩ := Kd.at_int HR0_1.out x3_2 p309 q309
         cases e309
         replace hx309_0 := (HB.out.cell (jG w _ hx309_0)).trans hx309_0
         replace p309 := eq_true p309
         replace q309 := eq_true q309
         go_wp2_with (first | (go_at_call 72; (with_reducible refine (spec_l01Bit.calls (rd l0_1 x3_2) x3_2 true _ A15.out).mono ?_); rintro e w' ⟨rfl, ⟨nd, rfl⟩⟩; (try exact zw)))
         repeat (go_quiet (first | (go_at_call 72; (with_reducible refine (spec_l01Bit.calls (rd l0_1 x3_2) x3_2 true _ A15.out).mono ?_); rintro e w' ⟨rfl, ⟨nd, rfl⟩⟩; (try exact zw))); try go_wp2_with (first | (go_at_call 72; (with_reducible refine (spec_l01Bit.calls (rd l0_1 x3_2) x3_2 true _ A15.out).mono ?_); rintro e w' ⟨rfl, ⟨nd, rfl⟩⟩; (try exact zw))))
         go_loopg [4] k2 (fun kq v4 w' => ∃ (x4_3 : Int), v4 = .int .i64 x4_3 ∧ Aside0 (spec_l02Is.l1 kq x3_2 x4_3 a0_0 l0_1 = some r) ∧ Aside0 (kq ≤ k2) ∧ Aside0 (w'.heap[gb306]? = some (.cells #[.int .i64 a0_0, (.slice (some ad309) l0_1.length c0_1)] 26 (0, 0))) ∧ Aside0 (Below w.heap.size w w'))
         case atStart => exact ⟨(0), zs, H', ⟨Nat.le_refl _⟩, ⟨zR BK306.out⟩, ⟨zT HB.out GE306.out⟩⟩
         case round =>
          clear H'
          try clear c1
          try clear hx3
          try clear c5
          try clear c6
          try clear c11
          try clear c12
          try clear c13
          try clear c14
          try clear c16
          try clear hcz10_0
          try clear hcz10_1
          try clear hcz17_0
          try clear hcz17_1
          try clear hcz8_0
          try clear hcz8_1
          try clear hcz9_0
          try clear hcz9_1
          try clear hfz10_0
          try clear hfz10_1
          try clear hfz17_0
          try clear hfz17_1
          try clear hfz8_0
          try clear hfz8_1
          try clear hfz9_0
          try clear hfz9_1
          try clear hx309_0
          obtain ⟨x4_3, rfl, HA, HK3, BK306, HB⟩ := hrel
          cases gk with
          | zero => exact absurd HA.out (by simp [spec_l02Is.l1])
          | succ k3 =>
           have H := HA.out
           clear HA
           simp only [spec_l02Is.l1] at H
           by_cases c18 : x4_3 < a0_0
           ·rw [if_pos c18] at H
            have c18b0 : decide (x4_3 < a0_0) = true := decide_eq_true c18
            clear c18
            by_cases c19 : 0 ≤ x3_2
            ·rw [if_pos c19] at H
             have c19b0 : decide (0 ≤ x3_2) = true := decide_eq_true c19
             clear c19
             by_cases c20 : x3_2 < (l0_1.length : Int)
             ·rw [if_pos c20] at H
              have c20b0 : decide (x3_2 < (l0_1.length : Int)) = true := decide_eq_true c20
              clear c20
              obtain ⟨t312, A21, H⟩ := zb H
              try dsimp only at H
              by_cases c22 : 0 ≤ x4_3
              ·rw [if_pos c22] at H
               have c22b0 : decide (0 ≤ x4_3) = true := decide_eq_true c22
               clear c22
               by_cases c23 : x4_3 < (l0_1.length : Int)
               ·rw [if_pos c23] at H
                have c23b0 : decide (x4_3 < (l0_1.length : Int)) = true := decide_eq_true c23
                clear c23
                obtain ⟨t314, A24, H⟩ := zb H
                try dsimp only at H
                by_cases c25 : (t312 != t314) = true
                ·rw [if_pos c25] at H
                 have c25b0 : (t312 != t314) = true := c25
                 (try (have c25b1 : decide (t312 = t314) = false := by simpa using c25))
                 (try (have c25b2 : (t312 == t314) = false := by simpa using c25))
                 (try (have c25b3 : ¬ (t312 = t314) := by simpa using c25))
                 clear c25
                 obtain rfl := Option.some.inj H
                 obtain ⟨hcz26_0, hcz26_1, hfz26_0, hfz26_1⟩ := zB3 BK306.out
                 have p311 : 0 ≤ (x3_2 : Int) := zd
                 have q311 : x3_2 < (l0_1.length : Int) := zd
                 obtain ⟨ad311, e311, hx311_0⟩ := Kd.at_int HR0_1.out x3_2 p311 q311
                 obtain rfl : ad309 = ad311 := (by injection e311)
                 replace hx311_0 := (HB.out.cell (jG w _ hx311_0)).trans hx311_0
                 replace p311 := eq_true p311
                 replace q311 := eq_true q311
                 go_wp2_with (first | (go_at_call 72; (with_reducible refine (spec_l01Bit.calls (rd l0_1 x3_2) x4_3 t312 _ A21.out).mono ?_); rintro e w' ⟨rfl, ⟨nd, rfl⟩⟩; (try exact zw); have p313 : 0 ≤ (x4_3 : Int) := zd; have q313 : x4_3 < (l0_1.length : Int) := zd; obtain ⟨ad313, e313, hx313_0⟩ := Kd.at_int HR0_1.out x4_3 p313 q313; obtain rfl : ad309 = ad313 := (by injection e313); replace hx313_0 := (HB.out.cell (jG w _ hx313_0)).trans hx313_0; replace p313 := eq_true p313; replace q313 := eq_true q313) | (go_at_call 72; (with_reducible refine (spec_l01Bit.calls (rd l0_1 x4_3) x3_2 t314 _ A24.out).mono ?_); rintro e w' ⟨rfl, ⟨nd, rfl⟩⟩; (try exact zw)))
                 repeat (go_quiet (first | (go_at_call 72; (with_reducible refine (spec_l01Bit.calls (rd l0_1 x3_2) x4_3 t312 _ A21.out).mono ?_); rintro e w' ⟨rfl, ⟨nd, rfl⟩⟩; (try exact zw); have p313 : 0 ≤ (x4_3 : Int) := zd; have q313 : x4_3 < (l0_1.length : Int) := zd; obtain ⟨ad313, e313, hx313_0⟩ := Kd.at_int HR0_1.out x4_3 p313 q313; obtain rfl : ad309 = ad313 := (by injection e313); replace hx313_0 := (HB.out.cell (jG w _ hx313_0)).trans hx313_0; replace p313 := eq_true p313; replace q313 := eq_true q313) | (go_at_call 72; (with_reducible refine (spec_l01Bit.calls (rd l0_1 x4_3) x3_2 t314 _ A24.out).mono ?_); rintro e w' ⟨rfl, ⟨nd, rfl⟩⟩; (try exact zw))); try go_wp2_with (first | (go_at_call 72; (with_reducible refine (spec_l01Bit.calls (rd l0_1 x3_2) x4_3 t312 _ A21.out).mono ?_); rintro e w' ⟨rfl, ⟨nd, rfl⟩⟩; (try exact zw); have p313 : 0 ≤ (x4_3 : Int) := zd; have q313 : x4_3 < (l0_1.length : Int) := zd; obtain ⟨ad313, e313, hx313_0⟩ := Kd.at_int HR0_1.out x4_3 p313 q313; obtain rfl : ad309 = ad313 := (by injection e313); replace hx313_0 := (HB.out.cell (jG w _ hx313_0)).trans hx313_0; replace p313 := eq_true p313; replace q313 := eq_true q313) | (go_at_call 72; (with_reducible refine (spec_l01Bit.calls (rd l0_1 x4_3) x3_2 t314 _ A24.out).mono ?_); rintro e w' ⟨rfl, ⟨nd, rfl⟩⟩; (try exact zw))))
                 go_ret
                 exact ⟨zr, zT HB.out GE306.out⟩
                rw [if_neg c25] at H
                have c25b0 : (t312 != t314) = false := by simpa using c25
                (try (have c25b1 : decide (t312 = t314) = true := by simpa using c25))
                (try (have c25b2 : (t312 == t314) = true := by simpa using c25))
                clear c25
                have H' := zA H
                clear H
                obtain ⟨hcz27_0, hcz27_1, hfz27_0, hfz27_1⟩ := zB3 BK306.out
                have p311 : 0 ≤ (x3_2 : Int) := zd
                have q311 : x3_2 < (l0_1.length : Int) := zd
                obtain ⟨ad311, e311, hx311_0⟩ := Kd.at_int HR0_1.out x3_2 p311 q311
                obtain rfl : ad309 = ad311 := (by injection e311)
                replace hx311_0 := (HB.out.cell (jG w _ hx311_0)).trans hx311_0
                replace p311 := eq_true p311
                replace q311 := eq_true q311
                go_wp2_with (first | (go_at_call 72; (with_reducible refine (spec_l01Bit.calls (rd l0_1 x3_2) x4_3 t312 _ A21.out).mono ?_); rintro e w' ⟨rfl, ⟨nd, rfl⟩⟩; (try exact zw); have p313 : 0 ≤ (x4_3 : Int) := zd; have q313 : x4_3 < (l0_1.length : Int) := zd; obtain ⟨ad313, e313, hx313_0⟩ := Kd.at_int HR0_1.out x4_3 p313 q313; obtain rfl : ad309 = ad313 := (by injection e313); replace hx313_0 := (HB.out.cell (jG w _ hx313_0)).trans hx313_0; replace p313 := eq_true p313; replace q313 := eq_true q313) | (go_at_call 72; (with_reducible refine (spec_l01Bit.calls (rd l0_1 x4_3) x3_2 t314 _ A24.out).mono ?_); rintro e w' ⟨rfl, ⟨nd, rfl⟩⟩; (try exact zw)))
                repeat (go_quiet (first | (go_at_call 72; (with_reducible refine (spec_l01Bit.calls (rd l0_1 x3_2) x4_3 t312 _ A21.out).mono ?_); rintro e w' ⟨rfl, ⟨nd, rfl⟩⟩; (try exact zw); have p313 : 0 ≤ (x4_3 : Int) := zd; have q313 : x4_3 < (l0_1.length : Int) := zd; obtain ⟨ad313, e313, hx313_0⟩ := Kd.at_int HR0_1.out x4_3 p313 q313; obtain rfl : ad309 = ad313 := (by injection e313); replace hx313_0 := (HB.out.cell (jG w _ hx313_0)).trans hx313_0; replace p313 := eq_true p313; replace q313 := eq_true q313) | (go_at_call 72; (with_reducible refine (spec_l01Bit.calls (rd l0_1 x4_3) x3_2 t314 _ A24.out).mono ?_); rintro e w' ⟨rfl, ⟨nd, rfl⟩⟩; (try exact zw))); try go_wp2_with (first | (go_at_call 72; (with_reducible refine (spec_l01Bit.calls (rd l0_1 x3_2) x4_3 t312 _ A21.out).mono ?_); rintro e w' ⟨rfl, ⟨nd, rfl⟩⟩; (try exact zw); have p313 : 0 ≤ (x4_3 : Int) := zd; have q313 : x4_3 < (l0_1.length : Int) := zd; obtain ⟨ad313, e313, hx313_0⟩ := Kd.at_int HR0_1.out x4_3 p313 q313; obtain rfl : ad309 = ad313 := (by injection e313); replace hx313_0 := (HB.out.cell (jG w _ hx313_0)).trans hx313_0; replace p313 := eq_true p313; replace q313 := eq_true q313) | (go_at_call 72; (with_reducible refine (spec_l01Bit.calls (rd l0_1 x4_3) x3_2 t314 _ A24.out).mono ?_); rintro e w' ⟨rfl, ⟨nd, rfl⟩⟩; (try exact zw))))
                go_roundg k3
                case measure => have := HJ1.out; have := HK2.out; have := HK3.out; omega
                case rel => exact ⟨(wrap64 (x4_3 + 1)), zs, H', ⟨by have := HJ1.out; have := HK2.out; have := HK3.out; omega⟩, ⟨zR BK306.out⟩, ⟨zT HB.out GE306.out⟩⟩
               rw [if_neg c23] at H
               exact absurd H (by simp)
              rw [if_neg c22] at H
              exact absurd H (by simp)
             rw [if_neg c20] at H
             exact absurd H (by simp)
            rw [if_neg c19] at H
            exact absurd H (by simp)
           rw [if_neg c18] at H
           have c18b0 : decide (x4_3 < a0_0) = false := decide_eq_false c18
           clear c18
           have H' := zA H
           clear H
           obtain ⟨hcz28_0, hcz28_1, hfz28_0, hfz28_1⟩ := zB3 BK306.out
           go_wp2
           repeat (go_quiet (fail); try go_wp2)
           go_roundg k3
           case measure => have := HJ1.out; have := HK2.out; have := HK3.out; omega
           case rel => exact ⟨(wrap64 (x3_2 + 1)), zs, H', ⟨by have := HJ1.out; have := HK2.out; have := HK3.out; omega⟩, ⟨zR BK306.out⟩, ⟨zT HB.out GE306.out⟩⟩
        replace c16 := Bool.eq_false_iff.mpr c16
        subst c16
        rw [if_neg (show ¬ (false = true) by decide)] at H
        obtain rfl := Option.some.inj H
        obtain ⟨hcz29_0, hcz29_1, hfz29_0, hfz29_1⟩ := zB3 BK306.out
        have p309 : 0 ≤ (x3_2 : Int) := zd
        have q309 : x3_2 < (l0_1.length : Int) := zd
        obtain ⟨ad309, e309, hx309_0⟩ := Kd.at_int HR0_1.out x3_2 p309 q309
        cases e309
        replace hx309_0 := (HB.out.cell (jG w _ hx309_0)).trans hx309_0
        replace p309 := eq_true p309
        replace q309 := eq_true q309
        go_wp2_with (first | (go_at_call 72; (with_reducible refine (spec_l01Bit.calls (rd l0_1 x3_2) x3_2 false _ A15.out).mono ?_); rintro e w' ⟨rfl, ⟨nd, rfl⟩⟩; (try exact zw)))
        repeat (go_quiet (first | (go_at_call 72; (with_reducible refine (spec_l01Bit.calls (rd l0_1 x3_2) x3_2 false _ A15.out).mono ?_); rintro e w' ⟨rfl, ⟨nd, rfl⟩⟩; (try exact zw))); try go_wp2_with (first | (go_at_call 72; (with_reducible refine (spec_l01Bit.calls (rd l0_1 x3_2) x3_2 false _ A15.out).mono ?_); rintro e w' ⟨rfl, ⟨nd, rfl⟩⟩; (try exact zw))))
        go_ret
        exact ⟨zr, zT HB.out GE306.out⟩
       rw [if_neg c14] at H
       exact absurd H (by simp)
      rw [if_neg c13] at H
      exact absurd H (by simp)
     rw [if_neg c12] at H
     have c12b0 : decide (x3_2 < a0_0) = false := decide_eq_false c12
     clear c12
     obtain rfl := Option.some.inj H
     obtain ⟨hcz30_0, hcz30_1, hfz30_0, hfz30_1⟩ := zB3 BK306.out
     go_wp2
     repeat (go_quiet (fail); try go_wp2)
     go_ret
     exact ⟨zr, zT HB.out GE306.out⟩

end Go.Proofs.YtcboobfmenonhaaDoor.PAll
