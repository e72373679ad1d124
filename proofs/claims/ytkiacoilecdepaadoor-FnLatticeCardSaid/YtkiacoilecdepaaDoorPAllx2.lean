import Derived.Test.YtkiacoilecdepaaDoorPAllx0
import Derived.Test.YtkiacoilecdepaaDoorPAllx1
namespace Go.Proofs.YtkiacoilecdepaaDoor.PAll
open Go.RowKit Go.Proofs.YtkiacoilecdepaaDoor.T Go.Proofs.YtkiacoilecdepaaDoorW.PrintWords Go.Proofs.YtkiacoilecdepaaDoorW.PrintLast Go.Proofs.YtkiacoilecdepaaDoorW.PrintMore
attribute [local go_sem] max2_int min2_int max_two min_two max_three min_three max_four min_four   -- for this text's walks alone
set_option linter.unusedVariables false
set_option linter.unusedSimpArgs false
def spec_l02Spoil.f (k : Nat) (s0_0 : List Int) (s0_1 : Int) (s0_2 : Int) (a1 : Int) : Option (Int × List Int × Int × Int) := (spec_l02Draw.f k s0_0 s0_1 s0_2 a1).bind fun bt153 => ((spec_l01Next.f s0_0 bt153.2.2.1 bt153.2.2.2 14).bind fun bt160 => (if bt160.1 > 0 then (some (bt153.1, bt153.2.1, bt160.2.1, bt160.2.2)) else ((spec_l01Next.f s0_0 bt160.2.1 bt160.2.2 4).bind fun bt163 => (if bt163.1 = 0 then ((spec_l01Pick.f s0_0 bt163.2.1 bt163.2.2 (([(-1), 9, wrap64 (bt153.1 + 1)] : List Int))).bind fun bt169 => (some (bt169.1, bt153.2.1, bt169.2.1, bt169.2.2))) else (if bt163.1 = 1 then ((spec_l01Pick.f s0_0 bt163.2.1 bt163.2.2 (([0, 1, 255] : List Int))).bind fun bt175 => (if bt153.2.1.length < 17592186044416 then (some (bt153.1, (bt153.2.1 ++ [bt175.1]), bt175.2.1, bt175.2.2)) else (none))) else (if bt153.1 > 0 then ((spec_l01Next.f s0_0 bt163.2.1 bt163.2.2 bt153.1).bind fun bt181 => (if 0 ≤ bt181.1 then (if bt181.1 < (bt153.2.1.length : Int) then ((spec_l01One.f bt181.1).bind fun t185 => ((spec_l01One.f bt153.1).bind fun t187 => ((spec_l01One.f bt153.1).bind fun t188 => ((spec_l01Next.f s0_0 bt181.2.1 bt181.2.2 t188).bind fun bt189 => ((spec_l01Pick.f s0_0 bt189.2.1 bt189.2.2 (([wrap64 ((rd bt153.2.1 bt181.1) - t185), Go.bits .or .i64 (rd bt153.2.1 bt181.1) t187, bt189.1, (-1)] : List Int))).bind fun bt195 => (some (bt153.1, (bt153.2.1.set (bt181.1 : Int).toNat bt195.1), bt195.2.1, bt195.2.2))))))) else (none)) else (none))) else (some (bt153.1, bt153.2.1, bt163.2.1, bt163.2.2))))))))
def spec_l02Spoil.T7 : Bool × List (List Nat × List Nat) := (true, [([], []), ([0], [0]), ([], []), ([], []), ([], []), ([4], [4]), ([], []), ([5, 6], [5, 6]), ([7], [7]), ([], []), ([9], [9]), ([8, 10], [8, 10]), ([], []), ([12], [12]), ([], []), ([13, 14], [13, 14]), ([15], [15]), ([], []), ([17], [17]), ([18, 10], [18]), ([16, 19], [16, 19]), ([], []), ([], []), ([22], [22]), ([23, 19], [23]), ([21, 24, 24], [21, 24]), ([11, 20, 25], [11, 20, 25]), ([3, 26, 25], [3, 26]), ([1, 2, 0, 1, 2, 3, 4, 5, 6, 7, 8, 9, 10, 11, 12, 13, 14, 15, 16, 17, 18, 19, 20, 21, 22, 23, 24, 25, 26, 27], [1, 2]), ([28, 27, 27, 0, 1, 2, 3, 4, 5, 6, 7, 8, 9, 10, 11, 12, 13, 14, 15, 16, 17, 18, 19, 20, 21, 22, 23, 24, 25, 26, 27], [27, 28])])
def spec_l02Spoil.B7 : List Nat := [0, 1, 0, 0, 0, 16, 0, 112, 240, 0, 512, 2032, 0, 4096, 0, 28672, 61440, 0, 131072, 394752, 1046016, 0, 0, 4194304, 13501952, 32376320, 67108848, 134217720, 268435455, 536870911]
theorem spec_l02Spoil.tab7 : rtab .any (opsOf Tryd.f98 7) = spec_l02Spoil.T7 := by kernel_rfl
theorem spec_l02Spoil.bits7 : waitsOk spec_l02Spoil.T7.2 spec_l02Spoil.B7 = true := by kernel_rfl
def spec_l02Spoil.T11 : Bool × List (List Nat × List Nat) := (true, [([], []), ([0], [0]), ([], []), ([], []), ([2, 3], [2, 3]), ([4], [4]), ([1, 5, 4], [1, 5]), ([0, 1, 2, 3, 4, 5, 6], []), ([7, 6, 6, 0, 1, 2, 3, 4, 5, 6], [6, 7])])
def spec_l02Spoil.B11 : List Nat := [0, 1, 0, 0, 12, 28, 63, 127, 255]
theorem spec_l02Spoil.tab11 : rtab .any (opsOf Tryd.f98 11) = spec_l02Spoil.T11 := by kernel_rfl
theorem spec_l02Spoil.bits11 : waitsOk spec_l02Spoil.T11.2 spec_l02Spoil.B11 = true := by kernel_rfl
set_option maxHeartbeats 8000000 in
set_option maxRecDepth 100000 in
theorem spec_l02Spoil.calls (k : Nat) (g : Nat) (s0_0 : List Int) (s0_1 : Int) (s0_2 : Int) (a1 : Int) (r1 : Int) (r2 : List Int) (r3 : Int) (r4 : Int) (w0 w : World) (hI : Z101 w0 w g s0_0 s0_1 s0_2) (hB : Below w0.heap.size w0 w) (h : spec_l02Spoil.f k s0_0 s0_1 s0_2 a1 = some (r1, r2, r3, r4)) :
  Calls Tryd.prog 98 #[.pointer (some ⟨g, 0, none⟩), .int .i64 a1] w fun e w' => ∃ v1_ : Value, e = .returned (.agg #[.int .i64 r1, v1_]) ∧ Kd.R (Kd.int .i64) 2 w' w.heap.size (fun _ => True) v1_ r2 ∧ Z101 w0 w' g s0_0 r3 r4 ∧ Below w0.heap.size w0 w' ∧ KeepBut w w' g none := by
 have hu26 := Tryd.underlying26
 have HI0 := zA hI
 have HK := zA (KeepBut.refl w g none)
 have HL := zA hB.size
 clear hI
 have HW0 := zA hB.size
 have HB := zA hB
 clear hB
 have H := h
 unfold spec_l02Spoil.f at H
 clear h
 obtain ⟨⟨t153, t154, t157, t158⟩, A3, H⟩ := zb H
 try dsimp only at H
 obtain ⟨⟨t160, t161, t162⟩, A4, H⟩ := zb H
 try dsimp only at H
 by_cases c5 : t160 > 0
 ·rw [if_pos c5] at H
  have c5b0 : decide (0 < t160) = true := decide_eq_true c5
  clear c5
  simp only [Option.some.injEq, Prod.mk.injEq] at H
  obtain ⟨rfl, rfl, rfl, rfl⟩ := H
  go_enter Tryd.func98, Tryd.ntmps98
  go_wp2_with (first | (refine zBE 4 #[.int .i64 0, .slice none 0 0] 26 ?_; intro gb152 hg w6 hbox hb; replace HB := zA (kQ (zT HB.out (Z101.ge HI0.out)) hb); have BK152 := zA (hbox); have GW152 := zA (zB6 hg (kX (w := w) (g := g) (row := none) (yA HK.out)) : w.heap.size ≤ gb152); have GE152 := zA ((Nat.le_trans HW0.out (by rw [hg]; exact (kX (w := w) (g := g) (row := none) (yA HK.out)) : w.heap.size ≤ gb152) : w0.heap.size ≤ gb152)); replace HK := zA (kT (yA HK.out) (kU hb g none) (.inl rfl)); have NB0_152 := zA (zB7 hg (Z101.lt (show Z101 w0 _ g s0_0 s0_1 s0_2 from Z101.uA HI0.out)) : g ≠ gb152); have NB152_0 := zA (zB8 hg (Z101.lt (show Z101 w0 _ g s0_0 s0_1 s0_2 from Z101.uA HI0.out)) : gb152 ≠ g); replace HI0 := zA (Z101.below (Z101.uA HI0.out) hb); clear hb hbox hg) | (refine zO (some 9) Tryd.func97 #[.pointer (some ⟨g, 0, none⟩), .int .i64 a1] ?_; (with_reducible refine (spec_l02Draw.calls k g s0_0 s0_1 s0_2 a1 t153 t154 t157 t158 w0 _ ?side1 ?side2 A3.out).mono ?_); (case side1 => exact Z101.uB HI0.out NB0_152.out); (case side2 => exact zV HB.out (Z101.ge HI0.out) GE152.out); rintro e w7 ⟨v155, rfl, ho0, hi, hb, hk⟩; refine ⟨_, rfl, ?_⟩; replace BK152 := zA (zB2 hk BK152.out NB152_0.out); have HO156 := zA (kI ho0 (kX (w := w) (g := g) (row := none) (yB HK.out GW152.out))); replace HK := zA (kT (yB HK.out GW152.out) hk (.inl rfl)); replace HB := zA (hb); replace HI0 := zA (hi); (try clear hb); (try clear hk); (try clear hi); (try clear ho0)) | (refine zBE 5 #[.int .i64 0, .slice none 0 0] 26 ?_; intro gb159 hg w8 hbox hb; replace HO156 := zA (kL (zP HO156.out) hb); replace HB := zA (kQ (zV HB.out (Z101.ge HI0.out) GE152.out) hb); have BK159 := zA (hbox); have GW159 := zA (zB6 hg (kX (w := w) (g := g) (row := none) (yB HK.out GW152.out)) : w.heap.size ≤ gb159); have GE159 := zA ((Nat.le_trans HW0.out (by rw [hg]; exact (kX (w := w) (g := g) (row := none) (yB HK.out GW152.out)) : w.heap.size ≤ gb159) : w0.heap.size ≤ gb159)); replace HK := zA (kT (yB HK.out GW152.out) (kU hb g none) (.inl rfl)); have NB152_159 := zA (zB4 hg BK152.out : gb152 ≠ gb159); have NB159_152 := zA (zB5 hg BK152.out : gb159 ≠ gb152); replace BK152 := zA (zB1 BK152.out hb); have NB0_159 := zA (zB7 hg (Z101.lt (show Z101 w0 _ g s0_0 t157 t158 from Z101.uB HI0.out NB0_152.out)) : g ≠ gb159); have NB159_0 := zA (zB8 hg (Z101.lt (show Z101 w0 _ g s0_0 t157 t158 from Z101.uB HI0.out NB0_152.out)) : gb159 ≠ g); replace HI0 := zA (Z101.below (Z101.uB HI0.out NB0_152.out) hb); clear hb hbox hg; have hnb9 := NB159_152.out; have hnc9 := NB152_159.out; have hnb10 := NB159_0.out; have hnc10 := NB0_159.out; obtain ⟨hcz11_0, hcz11_1, hfz11_0, hfz11_1⟩ := zB3 BK159.out; obtain ⟨Ao12, co12, eo12⟩ := kM HO156.out; subst eo12) | (refine zO (some 11) Tryd.func79 #[.pointer (some ⟨g, 0, none⟩), .int .i64 14] ?_; (with_reducible refine (spec_l01Next.calls g s0_0 t157 t158 14 t160 t161 t162 w0 _ ?side1 ?side2 A4.out).mono ?_); (case side1 => exact Z101.uC HI0.out NB0_152.out NB0_159.out); (case side2 => exact zW HB.out (Z101.ge HI0.out) GE152.out GE159.out); rintro e w13 ⟨rfl, hi, hb, hk⟩; refine ⟨_, rfl, ?_⟩; replace BK152 := zA (KeepBut.blk hk (g' := gb152) (o := .cells #[.int .i64 0, .slice none 0 0] 26 (0, 0)) (zBG BK152.out NB152_159.out NB152_159.out) NB152_0.out (by simp)); replace HO156 := zA (kA (Kd.R_keep (Z101.apart (show Z101 w0 _ g s0_0 t157 t158 from Z101.uC HI0.out NB0_152.out NB0_159.out) (zP (zFG HO156.out BK159.out (.int .i64 t153) (.slice Ao12 t154.length co12))) (by decide)) hk (fun _ h => h.2)) (fun _ h => h.1)); replace BK159 := zA (KeepBut.blk hk (g' := gb159) (o := .cells #[.int .i64 t153, .slice Ao12 t154.length co12] 26 (0, 0)) (zRP BK159.out) NB159_0.out (by simp)); replace HK := zA (kT (yC HK.out GW152.out GW159.out) hk (.inl rfl)); replace HB := zA (hb); replace HI0 := zA (hi); (try clear hb); (try clear hk); (try clear hi); obtain ⟨hcz14_0, hcz14_1, hfz14_0, hfz14_1⟩ := zB3 BK159.out; have hnb15 := NB152_0.out; have hnc15 := NB0_152.out; obtain ⟨hcz16_0, hcz16_1, hfz16_0, hfz16_1⟩ := zB3 BK152.out))
  refine bodyPost_ret (results_cell_row rfl _ _ gb152 26 #[.int .i64 t153, .slice Ao12 t154.length co12] (0, 0) _ rfl (zRP BK152.out) Tryd.underlying26 rfl (by kernel_rfl)) rfl ?_
  exact ⟨_, zr, by (with_reducible repeat (first | apply zF | apply zG | apply zH)); exact kA (kY (p := ⟨gb152, 1, none⟩) (kY (p := ⟨gb152, 0, none⟩) (kD HO156.out BK152.out (by decide)) (fun _ hk => hk.2) (.int .i64 t153)) (fun _ hk => hk.2) (.slice Ao12 t154.length co12)) (fun _ hk => trivial), by repeat (first | (with_reducible first | exact HI0.out | apply Z101.alloc | apply Z101.drewN | apply Z101.drew | apply Z101.set_1 | apply Z101.set_2 | refine Z101.far ?_ NB0_152.out _ | refine Z101.far ?_ NB0_159.out _) | exact HI0.out), zW HB.out (Z101.ge HI0.out) GE152.out GE159.out, by repeat (first | (with_reducible first | exact HK.out | apply KeepBut.set_ | apply keep_drewN | apply keep_drew | apply keep_alloc | refine keep_far ?_ GW152.out _ | refine keep_far ?_ GW159.out _) | exact HK.out)⟩
 rw [if_neg c5] at H
 have c5b0 : decide (0 < t160) = false := decide_eq_false c5
 clear c5
 obtain ⟨⟨t163, t164, t165⟩, A17, H⟩ := zb H
 try dsimp only at H
 by_cases c18 : t163 = 0
 ·rw [if_pos c18] at H
  obtain ⟨c18b0, c18b1⟩ := zT1 c18
  clear c18
  obtain ⟨y166, hy166⟩ : ∃ y_ : List Int, y_ = (([(-1), 9, wrap64 (t153 + 1)] : List Int)) := ⟨_, rfl⟩
  replace H : ((spec_l01Pick.f s0_0 t164 t165 y166).bind fun bt169 => (some (bt169.1, t154, bt169.2.1, bt169.2.2))) = some (r1, r2, r3, r4) := zy hy166 H
  have Ny166 := zA hy166
  clear hy166
  obtain ⟨⟨t169, t170, t171⟩, A19, H⟩ := zb H
  try dsimp only at H
  simp only [Option.some.injEq, Prod.mk.injEq] at H
  obtain ⟨rfl, rfl, rfl, rfl⟩ := H
  go_enter Tryd.func98, Tryd.ntmps98
  go_wp2_with (first | (refine zBE 4 #[.int .i64 0, .slice none 0 0] 26 ?_; intro gb152 hg w20 hbox hb; replace HB := zA (kQ (zT HB.out (Z101.ge HI0.out)) hb); have BK152 := zA (hbox); have GW152 := zA (zB6 hg (kX (w := w) (g := g) (row := none) (yA HK.out)) : w.heap.size ≤ gb152); have GE152 := zA ((Nat.le_trans HW0.out (by rw [hg]; exact (kX (w := w) (g := g) (row := none) (yA HK.out)) : w.heap.size ≤ gb152) : w0.heap.size ≤ gb152)); replace HK := zA (kT (yA HK.out) (kU hb g none) (.inl rfl)); have NB0_152 := zA (zB7 hg (Z101.lt (show Z101 w0 _ g s0_0 s0_1 s0_2 from Z101.uA HI0.out)) : g ≠ gb152); have NB152_0 := zA (zB8 hg (Z101.lt (show Z101 w0 _ g s0_0 s0_1 s0_2 from Z101.uA HI0.out)) : gb152 ≠ g); replace HI0 := zA (Z101.below (Z101.uA HI0.out) hb); clear hb hbox hg) | (refine zO (some 9) Tryd.func97 #[.pointer (some ⟨g, 0, none⟩), .int .i64 a1] ?_; (with_reducible refine (spec_l02Draw.calls k g s0_0 s0_1 s0_2 a1 t153 t154 t157 t158 w0 _ ?side1 ?side2 A3.out).mono ?_); (case side1 => exact Z101.uB HI0.out NB0_152.out); (case side2 => exact zV HB.out (Z101.ge HI0.out) GE152.out); rintro e w21 ⟨v155, rfl, ho0, hi, hb, hk⟩; refine ⟨_, rfl, ?_⟩; replace BK152 := zA (zB2 hk BK152.out NB152_0.out); have HO156 := zA (kI ho0 (kX (w := w) (g := g) (row := none) (yB HK.out GW152.out))); replace HK := zA (kT (yB HK.out GW152.out) hk (.inl rfl)); replace HB := zA (hb); replace HI0 := zA (hi); (try clear hb); (try clear hk); (try clear hi); (try clear ho0)) | (refine zBE 5 #[.int .i64 0, .slice none 0 0] 26 ?_; intro gb159 hg w22 hbox hb; replace HO156 := zA (kL (zP HO156.out) hb); replace HB := zA (kQ (zV HB.out (Z101.ge HI0.out) GE152.out) hb); have BK159 := zA (hbox); have GW159 := zA (zB6 hg (kX (w := w) (g := g) (row := none) (yB HK.out GW152.out)) : w.heap.size ≤ gb159); have GE159 := zA ((Nat.le_trans HW0.out (by rw [hg]; exact (kX (w := w) (g := g) (row := none) (yB HK.out GW152.out)) : w.heap.size ≤ gb159) : w0.heap.size ≤ gb159)); replace HK := zA (kT (yB HK.out GW152.out) (kU hb g none) (.inl rfl)); have NB152_159 := zA (zB4 hg BK152.out : gb152 ≠ gb159); have NB159_152 := zA (zB5 hg BK152.out : gb159 ≠ gb152); replace BK152 := zA (zB1 BK152.out hb); have NB0_159 := zA (zB7 hg (Z101.lt (show Z101 w0 _ g s0_0 t157 t158 from Z101.uB HI0.out NB0_152.out)) : g ≠ gb159); have NB159_0 := zA (zB8 hg (Z101.lt (show Z101 w0 _ g s0_0 t157 t158 from Z101.uB HI0.out NB0_152.out)) : gb159 ≠ g); replace HI0 := zA (Z101.below (Z101.uB HI0.out NB0_152.out) hb); clear hb hbox hg; have hnb23 := NB159_152.out; have hnc23 := NB152_159.out; have hnb24 := NB159_0.out; have hnc24 := NB0_159.out; obtain ⟨hcz25_0, hcz25_1, hfz25_0, hfz25_1⟩ := zB3 BK159.out; obtain ⟨Ao26, co26, eo26⟩ := kM HO156.out; subst eo26) | (refine zO (some 11) Tryd.func79 #[.pointer (some ⟨g, 0, none⟩), .int .i64 14] ?_; (with_reducible refine (spec_l01Next.calls g s0_0 t157 t158 14 t160 t161 t162 w0 _ ?side1 ?side2 A4.out).mono ?_); (case side1 => exact Z101.uC HI0.out NB0_152.out NB0_159.out); (case side2 => exact zW HB.out (Z101.ge HI0.out) GE152.out GE159.out); rintro e w27 ⟨rfl, hi, hb, hk⟩; refine ⟨_, rfl, ?_⟩; replace BK152 := zA (KeepBut.blk hk (g' := gb152) (o := .cells #[.int .i64 0, .slice none 0 0] 26 (0, 0)) (zBG BK152.out NB152_159.out NB152_159.out) NB152_0.out (by simp)); replace HO156 := zA (kA (Kd.R_keep (Z101.apart (show Z101 w0 _ g s0_0 t157 t158 from Z101.uC HI0.out NB0_152.out NB0_159.out) (zP (zFG HO156.out BK159.out (.int .i64 t153) (.slice Ao26 t154.length co26))) (by decide)) hk (fun _ h => h.2)) (fun _ h => h.1)); replace BK159 := zA (KeepBut.blk hk (g' := gb159) (o := .cells #[.int .i64 t153, .slice Ao26 t154.length co26] 26 (0, 0)) (zRP BK159.out) NB159_0.out (by simp)); replace HK := zA (kT (yC HK.out GW152.out GW159.out) hk (.inl rfl)); replace HB := zA (hb); replace HI0 := zA (hi); (try clear hb); (try clear hk); (try clear hi)) | (refine zO (some 15) Tryd.func79 #[.pointer (some ⟨g, 0, none⟩), .int .i64 4] ?_; (with_reducible refine (spec_l01Next.calls g s0_0 t161 t162 4 t163 t164 t165 w0 _ ?side1 ?side2 A17.out).mono ?_); (case side1 => exact Z101.uC HI0.out NB0_152.out NB0_159.out); (case side2 => exact zW HB.out (Z101.ge HI0.out) GE152.out GE159.out); rintro e w28 ⟨rfl, hi, hb, hk⟩; refine ⟨_, rfl, ?_⟩; replace BK152 := zA (zB2 hk BK152.out NB152_0.out); replace HO156 := zA (zB9 (Z101.apart (show Z101 w0 _ g s0_0 t161 t162 from Z101.uC HI0.out NB0_152.out NB0_159.out) (zP HO156.out) (by decide)) hk); replace BK159 := zA (zB2 hk BK159.out NB159_0.out); replace HK := zA (kT (yC HK.out GW152.out GW159.out) hk (.inl rfl)); replace HB := zA (hb); replace HI0 := zA (hi); (try clear hb); (try clear hk); (try clear hi); obtain ⟨hcz29_0, hcz29_1, hfz29_0, hfz29_1⟩ := zB3 BK159.out) | ((with_reducible refine kS (N := 58) rfl ?_); refine Kd.R_lit (Kd.int .i64) _ 2 ?hg (N := 58) ?hd (xs := ([(-1), 9, wrap64 (t153 + 1)] : List Int)) (inner := [.int .i64 (-1), .int .i64 9, .int .i64 (wrap64 (t153 + 1))]) (ok := fun _ => True) (okp := fun _ => True) ?hr ?hp (fun _ hk => hk) trivial (kW _ _) (Nat.le_refl _) (by simp) ?_; (case hd => rfl); (case hg => rfl); (case hr => first | (go_simp; done) | (go_simp; rfl)); (case hp => exact (Reps.one (show Kd.M (Kd.int .i64) _ _ _ (-1) [.int .i64 (-1)] from rfl) (Reps.one (show Kd.M (Kd.int .i64) _ _ _ 9 [.int .i64 9] from rfl) (Reps.one (show Kd.M (Kd.int .i64) _ _ _ (wrap64 (t153 + 1)) [.int .i64 (wrap64 (t153 + 1))] from rfl) (Reps.none _ _))))); intro v167 w30 ho31 hb hg_ hnew_; clear hg_ hnew_; (first | rw [← Ny166.out] at ho31 | (simp only [Int.reduceToNat] at ho31; rw [← Ny166.out] at ho31)); have HO168 := zA (kI (kF ho31 (kH (zP HO156.out))) (kX (w := w) (g := g) (row := none) (yC HK.out GW152.out GW159.out))); replace HO156 := zA (kE (zP HO156.out) (kC ho31) hb); replace BK152 := zA (zB1 BK152.out hb); replace BK159 := zA (zB1 BK159.out hb); replace HK := zA (kT (yC HK.out GW152.out GW159.out) (kU hb g none) (.inl rfl)); replace HB := zA (kQ (zW HB.out (Z101.ge HI0.out) GE152.out GE159.out) hb); replace HI0 := zA (Z101.below (Z101.uC HI0.out NB0_152.out NB0_159.out) hb); clear hb ho31; obtain ⟨Ao32, co32, eo32⟩ := kM HO168.out; subst eo32) | (refine zO (some 59) Tryd.func81 #[.pointer (some ⟨g, 0, none⟩), .slice Ao32 y166.length co32] ?_; (with_reducible refine (spec_l01Pick.calls g s0_0 t164 t165 _ _ y166 t169 t170 t171 w0 _ ?side1 ?side2 ?side3 ?side4 ?side5 A19.out).mono ?_); (case side1 => exact Z101.uC HI0.out NB0_152.out NB0_159.out); (case side2 => exact zW HB.out (Z101.ge HI0.out) GE152.out GE159.out); (case side3 => exact zS (kB HO168.out).2.2); (case side4 => exact (kB HO168.out).2.1); (case side5 => exact jJ (Z101.own_ne HI0.out HO168.out (by decide))); rintro e w33 ⟨rfl, hi, hb, hk⟩; refine ⟨_, rfl, ?_⟩; replace BK152 := zA (zB2 hk BK152.out NB152_0.out); replace HO156 := zA (zB9 (Z101.apart (show Z101 w0 _ g s0_0 t164 t165 from Z101.uC HI0.out NB0_152.out NB0_159.out) (zP HO156.out) (by decide)) hk); replace BK159 := zA (zB2 hk BK159.out NB159_0.out); replace HO168 := zA (zB9 (Z101.apart (show Z101 w0 _ g s0_0 t164 t165 from Z101.uC HI0.out NB0_152.out NB0_159.out) (zP HO168.out) (by decide)) hk); replace HK := zA (kT (yC HK.out GW152.out GW159.out) hk (.inl rfl)); replace HB := zA (hb); replace HI0 := zA (hi); (try clear hb); (try clear hk); (try clear hi); obtain ⟨hcz34_0, hcz34_1, hfz34_0, hfz34_1⟩ := zB3 BK159.out; have hnb35 := NB152_0.out; have hnc35 := NB0_152.out; obtain ⟨hcz36_0, hcz36_1, hfz36_0, hfz36_1⟩ := zB3 BK152.out))
  refine bodyPost_ret (results_cell_row rfl _ _ gb152 26 #[.int .i64 t169, .slice Ao26 t154.length co26] (0, 0) _ rfl (by (with_reducible repeat (first | refine zJ ?_ _ | refine zK ?_ | refine zI ?_ _)); refine blk_put (cs := #[.int .i64 t169, .slice none 0 0]) ?_ 1 _ rfl; (with_reducible repeat (first | refine zJ ?_ _ | refine zK ?_ | refine zI ?_ _)); refine blk_put (cs := #[.int .i64 0, .slice none 0 0]) ?_ 0 _ rfl; (with_reducible repeat (first | refine zJ ?_ _ | refine zK ?_ | refine zI ?_ _)); refine blk_far ?_ NB152_159.out _; (with_reducible repeat (first | refine zJ ?_ _ | refine zK ?_ | refine zI ?_ _)); exact BK152.out) Tryd.underlying26 rfl (by kernel_rfl)) rfl ?_
  exact ⟨_, zr, by (with_reducible repeat (first | apply zF | apply zG | apply zH)); exact kA (kY (p := ⟨gb152, 1, none⟩) (kY (p := ⟨gb152, 0, none⟩) (kY (p := ⟨gb159, 0, none⟩) (kD (kD HO156.out BK159.out (by decide)) BK152.out (by decide)) (fun _ hk => hk.1.2) (.int .i64 t169)) (fun _ hk => hk.2) (.int .i64 t169)) (fun _ hk => hk.2) (.slice Ao26 t154.length co26)) (fun _ hk => trivial), by repeat (first | (with_reducible first | exact HI0.out | apply Z101.alloc | apply Z101.drewN | apply Z101.drew | apply Z101.set_1 | apply Z101.set_2 | refine Z101.far ?_ NB0_152.out _ | refine Z101.far ?_ NB0_159.out _) | exact HI0.out), zW HB.out (Z101.ge HI0.out) GE152.out GE159.out, by repeat (first | (with_reducible first | exact HK.out | apply KeepBut.set_ | apply keep_drewN | apply keep_drew | apply keep_alloc | refine keep_far ?_ GW152.out _ | refine keep_far ?_ GW159.out _) | exact HK.out)⟩
 rw [if_neg c18] at H
 obtain ⟨c18b0, c18b1⟩ := zT2 c18
 by_cases c37 : t163 = 1
 ·rw [if_pos c37] at H
  obtain ⟨c37b0, c37b1⟩ := zT1 c37
  clear c37
  obtain ⟨y172, hy172⟩ : ∃ y_ : List Int, y_ = (([0, 1, 255] : List Int)) := ⟨_, rfl⟩
  replace H : ((spec_l01Pick.f s0_0 t164 t165 y172).bind fun bt175 => (if t154.length < 17592186044416 then (some (t153, (t154 ++ [bt175.1]), bt175.2.1, bt175.2.2)) else (none))) = some (r1, r2, r3, r4) := zy hy172 H
  have Ny172 := zA hy172
  clear hy172
  obtain ⟨⟨t175, t176, t177⟩, A38, H⟩ := zb H
  try dsimp only at H
  by_cases c39 : t154.length < 17592186044416
  ·rw [if_pos c39] at H
   have LMc39 := zA c39
   clear c39
   obtain ⟨y178, hy178⟩ : ∃ y_ : List Int, y_ = (t154 ++ [t175]) := ⟨_, rfl⟩
   replace H : (some (t153, y178, t176, t177)) = some (r1, r2, r3, r4) := zy hy178 H
   have Ny178 := zA hy178
   clear hy178
   simp only [Option.some.injEq, Prod.mk.injEq] at H
   obtain ⟨rfl, rfl, rfl, rfl⟩ := H
   go_enter Tryd.func98, Tryd.ntmps98
   try go_wp2_with (first | (refine zBE 4 #[.int .i64 0, .slice none 0 0] 26 ?_; intro gb152 hg w40 hbox hb; replace HB := zA (kQ (zT HB.out (Z101.ge HI0.out)) hb); have BK152 := zA (hbox); have GW152 := zA (zB6 hg (kX (w := w) (g := g) (row := none) (yA HK.out)) : w.heap.size ≤ gb152); have GE152 := zA ((Nat.le_trans HW0.out (by rw [hg]; exact (kX (w := w) (g := g) (row := none) (yA HK.out)) : w.heap.size ≤ gb152) : w0.heap.size ≤ gb152)); replace HK := zA (kT (yA HK.out) (kU hb g none) (.inl rfl)); have NB0_152 := zA (zB7 hg (Z101.lt (show Z101 w0 _ g s0_0 s0_1 s0_2 from Z101.uA HI0.out)) : g ≠ gb152); have NB152_0 := zA (zB8 hg (Z101.lt (show Z101 w0 _ g s0_0 s0_1 s0_2 from Z101.uA HI0.out)) : gb152 ≠ g); replace HI0 := zA (Z101.below (Z101.uA HI0.out) hb); clear hb hbox hg) | (refine zO (some 9) Tryd.func97 #[.pointer (some ⟨g, 0, none⟩), .int .i64 a1] ?_; (with_reducible refine (spec_l02Draw.calls k g s0_0 s0_1 s0_2 a1 t153 t154 t157 t158 w0 _ ?side1 ?side2 A3.out).mono ?_); (case side1 => exact Z101.uB HI0.out NB0_152.out); (case side2 => exact zV HB.out (Z101.ge HI0.out) GE152.out); rintro e w41 ⟨v155, rfl, ho0, hi, hb, hk⟩; refine ⟨_, rfl, ?_⟩; replace BK152 := zA (zB2 hk BK152.out NB152_0.out); have HO156 := zA (kI ho0 (kX (w := w) (g := g) (row := none) (yB HK.out GW152.out))); replace HK := zA (kT (yB HK.out GW152.out) hk (.inl rfl)); replace HB := zA (hb); replace HI0 := zA (hi); (try clear hb); (try clear hk); (try clear hi); (try clear ho0)) | (refine zBE 5 #[.int .i64 0, .slice none 0 0] 26 ?_; intro gb159 hg w42 hbox hb; replace HO156 := zA (kL (zP HO156.out) hb); replace HB := zA (kQ (zV HB.out (Z101.ge HI0.out) GE152.out) hb); have BK159 := zA (hbox); have GW159 := zA (zB6 hg (kX (w := w) (g := g) (row := none) (yB HK.out GW152.out)) : w.heap.size ≤ gb159); have GE159 := zA ((Nat.le_trans HW0.out (by rw [hg]; exact (kX (w := w) (g := g) (row := none) (yB HK.out GW152.out)) : w.heap.size ≤ gb159) : w0.heap.size ≤ gb159)); replace HK := zA (kT (yB HK.out GW152.out) (kU hb g none) (.inl rfl)); have NB152_159 := zA (zB4 hg BK152.out : gb152 ≠ gb159); have NB159_152 := zA (zB5 hg BK152.out : gb159 ≠ gb152); replace BK152 := zA (zB1 BK152.out hb); have NB0_159 := zA (zB7 hg (Z101.lt (show Z101 w0 _ g s0_0 t157 t158 from Z101.uB HI0.out NB0_152.out)) : g ≠ gb159); have NB159_0 := zA (zB8 hg (Z101.lt (show Z101 w0 _ g s0_0 t157 t158 from Z101.uB HI0.out NB0_152.out)) : gb159 ≠ g); replace HI0 := zA (Z101.below (Z101.uB HI0.out NB0_152.out) hb); clear hb hbox hg; have hnb43 := NB159_152.out; have hnc43 := NB152_159.out; have hnb44 := NB159_0.out; have hnc44 := NB0_159.out; obtain ⟨hcz45_0, hcz45_1, hfz45_0, hfz45_1⟩ := zB3 BK159.out; obtain ⟨Ao46, co46, eo46⟩ := kM HO156.out; subst eo46) | (refine zO (some 11) Tryd.func79 #[.pointer (some ⟨g, 0, none⟩), .int .i64 14] ?_; (with_reducible refine (spec_l01Next.calls g s0_0 t157 t158 14 t160 t161 t162 w0 _ ?side1 ?side2 A4.out).mono ?_); (case side1 => exact Z101.uC HI0.out NB0_152.out NB0_159.out); (case side2 => exact zW HB.out (Z101.ge HI0.out) GE152.out GE159.out); rintro e w47 ⟨rfl, hi, hb, hk⟩; refine ⟨_, rfl, ?_⟩; replace BK152 := zA (KeepBut.blk hk (g' := gb152) (o := .cells #[.int .i64 0, .slice none 0 0] 26 (0, 0)) (zBG BK152.out NB152_159.out NB152_159.out) NB152_0.out (by simp)); replace HO156 := zA (kA (Kd.R_keep (Z101.apart (show Z101 w0 _ g s0_0 t157 t158 from Z101.uC HI0.out NB0_152.out NB0_159.out) (zP (zFG HO156.out BK159.out (.int .i64 t153) (.slice Ao46 t154.length co46))) (by decide)) hk (fun _ h => h.2)) (fun _ h => h.1)); replace BK159 := zA (KeepBut.blk hk (g' := gb159) (o := .cells #[.int .i64 t153, .slice Ao46 t154.length co46] 26 (0, 0)) (zRP BK159.out) NB159_0.out (by simp)); replace HK := zA (kT (yC HK.out GW152.out GW159.out) hk (.inl rfl)); replace HB := zA (hb); replace HI0 := zA (hi); (try clear hb); (try clear hk); (try clear hi)) | (refine zO (some 15) Tryd.func79 #[.pointer (some ⟨g, 0, none⟩), .int .i64 4] ?_; (with_reducible refine (spec_l01Next.calls g s0_0 t161 t162 4 t163 t164 t165 w0 _ ?side1 ?side2 A17.out).mono ?_); (case side1 => exact Z101.uC HI0.out NB0_152.out NB0_159.out); (case side2 => exact zW HB.out (Z101.ge HI0.out) GE152.out GE159.out); rintro e w48 ⟨rfl, hi, hb, hk⟩; refine ⟨_, rfl, ?_⟩; replace BK152 := zA (zB2 hk BK152.out NB152_0.out); replace HO156 := zA (zB9 (Z101.apart (show Z101 w0 _ g s0_0 t161 t162 from Z101.uC HI0.out NB0_152.out NB0_159.out) (zP HO156.out) (by decide)) hk); replace BK159 := zA (zB2 hk BK159.out NB159_0.out); replace HK := zA (kT (yC HK.out GW152.out GW159.out) hk (.inl rfl)); replace HB := zA (hb); replace HI0 := zA (hi); (try clear hb); (try clear hk); (try clear hi)))
   replace HO156 := zA (zH HO156.out)
   replace BK152 := zA (zK BK152.out)
   replace BK159 := zA (zK BK159.out)
   replace HI0 := zA (Z101.drew HI0.out)
   replace HK := zA (keep_drew HK.out)
   replace HB := zA (zD HB.out)
   refine start_ (n := 9) (S := fun w' => w'.cell? ⟨gb159, 0, none⟩ = some (.int .i64 t153) ∧ w'.cell? ⟨gb159, 1, none⟩ = some (.slice Ao46 t154.length co46)) (ds := [8]) #[false, false, false, false, false, false, false, false, false] (by kernel_rfl) rfl rfl ⟨(kV BK159.out 0).trans rfl, (kV BK159.out 1).trans rfl⟩ (fun hHeld => ?_); refine with_tabW spec_l02Spoil.tab11 spec_l02Spoil.bits11 (fun HT_ HW_ => ?_)
   generalize w48.drew = w49 at HO156 BK152 BK159 HI0 HK HB hHeld ⊢
   refine zp 0 (some 63) #[true, false, false, false, false, false, false, false, false] HT_.out ?_
   refine zp 2 (some 65) #[true, false, true, false, false, false, false, false, false] HT_.out ?_
   refine zc 1 (some 64) #[true, true, true, false, false, false, false, false, false] HT_.out HW_.out hHeld ?_
   refine one_ (i := 3) (N := some 66) #[true, true, true, true, false, false, false, false, false] rfl rfl (one_of HT_.out (by kernel_rfl)) (by decide) (fun K hK => ?_)
   refine Kd.R_lit_step (Kd.int .i64) _ 2 ?hg (N := 66) ?hd (xs := ([0, 1, 255] : List Int)) (inner := [.int .i64 0, .int .i64 1, .int .i64 255]) (ok := fun _ => True) (okp := fun _ => True) ?hr ?hp (fun _ hk => hk) trivial (kW _ _) (Nat.le_refl _) (by simp) ?_; (case hd => rfl); (case hg => rfl); (case hr => first | (go_simp; done) | (go_simp; rfl)); (case hp => exact (Reps.one (show Kd.M (Kd.int .i64) _ _ _ 0 [.int .i64 0] from rfl) (Reps.one (show Kd.M (Kd.int .i64) _ _ _ 1 [.int .i64 1] from rfl) (Reps.one (show Kd.M (Kd.int .i64) _ _ _ 255 [.int .i64 255] from rfl) (Reps.none _ _)))))
   intro v173 w50 ho51 hb hg_ hnew_
   clear hg_ hnew_
   (first | rw [← Ny172.out] at ho51 | (simp only [Int.reduceToNat] at ho51; rw [← Ny172.out] at ho51))
   have HO174 := zA (kI (kF ho51 (kH (zP HO156.out))) (kX (w := w) (g := g) (row := none) (yC HK.out GW152.out GW159.out)))
   replace HO156 := zA (kE (zP HO156.out) (kC ho51) hb)
   replace BK152 := zA (zB1 BK152.out hb)
   replace BK159 := zA (zB1 BK159.out hb)
   replace HK := zA (kT (yC HK.out GW152.out GW159.out) (kU hb g none) (.inl rfl))
   replace HB := zA (kQ (zW HB.out (Z101.ge HI0.out) GE152.out GE159.out) hb)
   replace HI0 := zA (Z101.below (Z101.uC HI0.out NB0_152.out NB0_159.out) hb)
   clear hb ho51
   obtain ⟨Ao52, co52, eo52⟩ := kM HO174.out
   (first | subst eo52 | (injection eo52 with f1_ f2_ f3_; have f4_ := f1_.symm; have f5_ := f3_.symm; clear f1_ f2_ f3_; subst f4_; subst f5_))
   refine hK.out _ _ ⟨(kV BK159.out 0).trans rfl, (kV BK159.out 1).trans rfl⟩ (fun hHeld => ?_)
   clear hK K
   refine norm_ (a' := ?_) ?_ ?_
   rotate_left
   ·show Act.put _ (some 66) _ = _
    simp only [Act.put, zL, zM, zN, i64_w, i32_w]
    rfl
   refine one_ (i := 4) (N := some 67) #[true, true, true, true, true, false, false, false, false] rfl rfl (one_of HT_.out (by kernel_rfl)) (by decide) (fun K hK => ?_)
   refine goes_ Tryd.func81 (by kernel_rfl) rfl #[.pointer (some ⟨g, 0, none⟩), .slice Ao52 y172.length co52] (by rfl) rfl rfl zg ?_
   with_reducible refine (spec_l01Pick.calls g s0_0 t164 t165 _ _ y172 t175 t176 t177 w0 _ ?side1 ?side2 ?side3 ?side4 ?side5 A38.out).mono ?_
   (case side1 => exact Z101.uC HI0.out NB0_152.out NB0_159.out)
   (case side2 => exact zW HB.out (Z101.ge HI0.out) GE152.out GE159.out)
   (case side3 => exact zS (kB HO174.out).2.2)
   (case side4 => exact (kB HO174.out).2.1)
   (case side5 => exact jJ (Z101.own_ne HI0.out HO174.out (by decide)))
   rintro e w53 ⟨rfl, hi, hb, hk⟩
   refine ⟨_, rfl, ?_⟩
   replace BK152 := zA (zB2 hk BK152.out NB152_0.out)
   replace HO156 := zA (zB9 (Z101.apart (show Z101 w0 _ g s0_0 t164 t165 from Z101.uC HI0.out NB0_152.out NB0_159.out) (zP HO156.out) (by decide)) hk)
   replace BK159 := zA (zB2 hk BK159.out NB159_0.out)
   replace HO174 := zA (zB9 (Z101.apart (show Z101 w0 _ g s0_0 t164 t165 from Z101.uC HI0.out NB0_152.out NB0_159.out) (zP HO174.out) (by decide)) hk)
   replace HK := zA (kT (yC HK.out GW152.out GW159.out) hk (.inl rfl))
   replace HB := zA (hb)
   replace HI0 := zA (hi)
   (try clear hb)
   (try clear hb2)
   (try clear hk)
   (try clear hi)
   (try clear hgw)
   refine hK.out _ _ ⟨(kV BK159.out 0).trans rfl, (kV BK159.out 1).trans rfl⟩ (fun hHeld => ?_)
   clear hK K
   refine norm_ (a' := ?_) ?_ ?_
   rotate_left
   ·show Act.put _ (some 67) _ = _
    simp only [Act.put, zL, zM, zN, i64_w, i32_w]
    rfl
   refine one_ (i := 5) (N := some 68) #[true, true, true, true, true, true, false, false, false] rfl rfl (one_of HT_.out (by kernel_rfl)) (by decide) (fun K hK => ?_)
   refine value_ (w1 := ?_) (v := ?_) (by rfl) rfl ?_ ?_
   rotate_left 2
   ·go_simp
    constructor
    ·rfl
    rfl
   refine hK.out _ _ ⟨(kV (zI BK159.out _) 0).trans rfl, (kV (zI BK159.out _) 1).trans rfl⟩ (fun hHeld => ?_)
   clear hK K
   refine norm_ (a' := ?_) ?_ ?_
   rotate_left
   ·show Act.put _ (some 68) _ = _
    simp only [Act.put, zL, zM, zN, i64_w, i32_w]
    rfl
   refine one_ (i := 6) (N := some 69) #[true, true, true, true, true, true, true, false, false] rfl rfl (one_of HT_.out (by kernel_rfl)) (by decide) (fun K hK => ?_)
   refine Kd.R_append_step (Kd.int .i64) w.heap.size (by rfl) (.tmp 64) (.tmp 68) 24 2 (.int .i64 0) 8 rfl Tryd.underlying24 info2 rfl (by decide) (by omega) (.slice Ao46 t154.length co46) t154 t175 [.int .i64 t175] (fun k_ => some k_ ≠ (.slice Ao52 y172.length co52 : Value).ownBlock) (fun _ => False) rfl rfl ?aP (fun _ hk => hk.elim) ?aF ?aO (kW _ _) ?aS ?aL ?_
   (case aP => exact rfl)
   (case aF => exact (fun k_ hk => jF (kH (zP HO174.out)) k_ hk))
   (case aO => exact (by (with_reducible repeat (first | apply zF | apply zG | apply zH)); exact kA HO156.out (fun _ hk => hk.2)))
   (case aS => exact (kX (w := w) (g := g) (row := none) (yC HK.out GW152.out GW159.out)))
   (case aL => have := LMc39.out; omega)
   intro v179 w54 ho hb hg hat
   rw [← Ny178.out] at ho
   replace BK152 := zA (blk_grown (g := gb152) (o := .cells #[.int .i64 0, .slice none 0 0] 26 (0, 0)) (zR BK152.out) hg (Kd.R_ne HO156.out BK152.out (by decide)))
   replace BK159 := zA (blk_grown (g := gb159) (o := .cells #[.int .i64 t153, .slice Ao46 t154.length co46] 26 (0, 0)) (zR BK159.out) hg (Kd.R_ne HO156.out BK159.out (by decide)))
   replace HO174 := zA (Kd.R_after (ok := (fun _ => True)) (zP HO174.out) hg hat)
   replace HB := zA (below_weaken (zW HB.out (Z101.ge HI0.out) GE152.out GE159.out) HL.out hb)
   replace HI0 := zA (Z101.grown (Z101.uC HI0.out NB0_152.out NB0_159.out) hg (Z101.own_ne HI0.out HO156.out (by decide)))
   replace HK := zA (kT (yC HK.out GW152.out GW159.out) (KeepBut.of_grown hg g) (Kd.R_base2 HO156.out))
   have HO180 := zA (ho)
   clear HO156 ho hb hg hat
   obtain ⟨Ao55, co55, eo55⟩ := kM HO180.out
   (first | subst eo55 | (injection eo55 with f1_ f2_ f3_; have f4_ := f1_.symm; have f5_ := f3_.symm; clear f1_ f2_ f3_; subst f4_; subst f5_))
   refine hK.out _ _ ⟨(kV BK159.out 0).trans rfl, (kV BK159.out 1).trans rfl⟩ (fun hHeld => ?_)
   clear hK K
   refine norm_ (a' := ?_) ?_ ?_
   rotate_left
   ·show Act.put _ (some 69) _ = _
    simp only [Act.put, zL, zM, zN, i64_w, i32_w]
    rfl
   refine zp 7 (some 70) #[true, true, true, true, true, true, true, true, false] HT_.out ?_
   refine last_ (i := 8) (N := none) #[true, true, true, true, true, true, true, true, true] rfl rfl (one_of HT_.out (by kernel_rfl)) (by decide) (fun K hK => ?_)
   have hs56 : w54.cell? ⟨gb159, 1, none⟩ = some (.slice Ao46 t154.length co46) := (kV BK159.out 1).trans rfl
   have hfs56 := jH BK159.out 1
   have hns56_0 := NB152_159.out
   have hms56_0 := NB159_152.out
   refine skip_ (w1 := ?_) (by rfl) rfl ?_ ?_
   rotate_left
   ·go_simp
    rfl
   refine hK.out _ _ ?_
   clear hK K
   refine done_ (done_of HT_.out (by kernel_rfl)) ?_
   obtain ⟨hcz57_0, hcz57_1, hfz57_0, hfz57_1⟩ := zB3 BK159.out
   have hnb58 := NB152_0.out
   have hnc58 := NB0_152.out
   obtain ⟨hcz59_0, hcz59_1, hfz59_0, hfz59_1⟩ := zB3 BK152.out
   try go_wp2
   refine bodyPost_ret (results_cell_row rfl _ _ gb152 26 #[.int .i64 t153, .slice Ao55 y178.length co55] (0, 0) _ rfl (by (with_reducible repeat (first | refine zJ ?_ _ | refine zK ?_ | refine zI ?_ _)); refine blk_put (cs := #[.int .i64 t153, .slice none 0 0]) ?_ 1 _ rfl; (with_reducible repeat (first | refine zJ ?_ _ | refine zK ?_ | refine zI ?_ _)); refine blk_put (cs := #[.int .i64 0, .slice none 0 0]) ?_ 0 _ rfl; (with_reducible repeat (first | refine zJ ?_ _ | refine zK ?_ | refine zI ?_ _)); refine blk_far ?_ NB152_159.out _; (with_reducible repeat (first | refine zJ ?_ _ | refine zK ?_ | refine zI ?_ _)); exact BK152.out) Tryd.underlying26 rfl (by kernel_rfl)) rfl ?_
   exact ⟨_, zr, by (with_reducible repeat (first | apply zF | apply zG | apply zH)); exact kA (kY (p := ⟨gb152, 1, none⟩) (kY (p := ⟨gb152, 0, none⟩) (kY (p := ⟨gb159, 1, none⟩) (kD (kD HO180.out BK159.out (by decide)) BK152.out (by decide)) (fun _ hk => hk.1.2) (.slice Ao55 y178.length co55)) (fun _ hk => hk.2) (.int .i64 t153)) (fun _ hk => hk.2) (.slice Ao55 y178.length co55)) (fun _ hk => trivial), by repeat (first | (with_reducible first | exact HI0.out | apply Z101.alloc | apply Z101.drewN | apply Z101.drew | apply Z101.set_1 | apply Z101.set_2 | refine Z101.far ?_ NB0_152.out _ | refine Z101.far ?_ NB0_159.out _) | exact HI0.out), zW HB.out (Z101.ge HI0.out) GE152.out GE159.out, by repeat (first | (with_reducible first | exact HK.out | apply KeepBut.set_ | apply keep_drewN | apply keep_drew | apply keep_alloc | refine keep_far ?_ GW152.out _ | refine keep_far ?_ GW159.out _) | exact HK.out)⟩
  rw [if_neg c39] at H
  exact absurd H (by simp)
 rw [if_neg c37] at H
 obtain ⟨c37b0, c37b1⟩ := zT2 c37
 by_cases c60 : t153 > 0
 ·rw [if_pos c60] at H
  have c60b0 : decide (0 < t153) = true := decide_eq_true c60
  clear c60
  obtain ⟨⟨t181, t182, t183⟩, A61, H⟩ := zb H
  try dsimp only at H
  by_cases c62 : 0 ≤ t181
  ·rw [if_pos c62] at H
   have c62b0 : decide (0 ≤ t181) = true := decide_eq_true c62
   clear c62
   by_cases c63 : t181 < (t154.length : Int)
   ·rw [if_pos c63] at H
    have c63b0 : decide (t181 < (t154.length : Int)) = true := decide_eq_true c63
    clear c63
    obtain ⟨t185, A64, H⟩ := zb H
    try dsimp only at H
    obtain ⟨t187, A65, H⟩ := zb H
    try dsimp only at H
    obtain ⟨t188, A66, H⟩ := zb H
    try dsimp only at H
    obtain ⟨⟨t189, t190, t191⟩, A67, H⟩ := zb H
    try dsimp only at H
    obtain ⟨y192, hy192⟩ : ∃ y_ : List Int, y_ = (([wrap64 ((rd t154 t181) - t185), Go.bits .or .i64 (rd t154 t181) t187, t189, (-1)] : List Int)) := ⟨_, rfl⟩
    replace H : ((spec_l01Pick.f s0_0 t190 t191 y192).bind fun bt195 => (some (t153, (t154.set (t181 : Int).toNat bt195.1), bt195.2.1, bt195.2.2))) = some (r1, r2, r3, r4) := zy hy192 H
    have Ny192 := zA hy192
    clear hy192
    obtain ⟨⟨t195, t196, t197⟩, A68, H⟩ := zb H
    try dsimp only at H
    obtain ⟨y198, hy198⟩ : ∃ y_ : List Int, y_ = (t154.set (t181 : Int).toNat t195) := ⟨_, rfl⟩
    replace H : (some (t153, y198, t196, t197)) = some (r1, r2, r3, r4) := zy hy198 H
    have Ny198 := zA hy198
    clear hy198
    simp only [Option.some.injEq, Prod.mk.injEq] at H
    obtain ⟨rfl, rfl, rfl, rfl⟩ := H
    go_enter Tryd.func98, Tryd.ntmps98
    try go_wp2_with (first | (refine zBE 4 #[.int .i64 0, .slice none 0 0] 26 ?_; intro gb152 hg w70 hbox hb; replace HB := zA (kQ (zT HB.out (Z101.ge HI0.out)) hb); have BK152 := zA (hbox); have GW152 := zA (zB6 hg (kX (w := w) (g := g) (row := none) (yA HK.out)) : w.heap.size ≤ gb152); have GE152 := zA ((Nat.le_trans HW0.out (by rw [hg]; exact (kX (w := w) (g := g) (row := none) (yA HK.out)) : w.heap.size ≤ gb152) : w0.heap.size ≤ gb152)); replace HK := zA (kT (yA HK.out) (kU hb g none) (.inl rfl)); have NB0_152 := zA (zB7 hg (Z101.lt (show Z101 w0 _ g s0_0 s0_1 s0_2 from Z101.uA HI0.out)) : g ≠ gb152); have NB152_0 := zA (zB8 hg (Z101.lt (show Z101 w0 _ g s0_0 s0_1 s0_2 from Z101.uA HI0.out)) : gb152 ≠ g); replace HI0 := zA (Z101.below (Z101.uA HI0.out) hb); clear hb hbox hg) | (refine zO (some 9) Tryd.func97 #[.pointer (some ⟨g, 0, none⟩), .int .i64 a1] ?_; (with_reducible refine (spec_l02Draw.calls k g s0_0 s0_1 s0_2 a1 t153 t154 t157 t158 w0 _ ?side1 ?side2 A3.out).mono ?_); (case side1 => exact Z101.uB HI0.out NB0_152.out); (case side2 => exact zV HB.out (Z101.ge HI0.out) GE152.out); rintro e w71 ⟨v155, rfl, ho0, hi, hb, hk⟩; refine ⟨_, rfl, ?_⟩; replace BK152 := zA (zB2 hk BK152.out NB152_0.out); have HO156 := zA (kI ho0 (kX (w := w) (g := g) (row := none) (yB HK.out GW152.out))); replace HK := zA (kT (yB HK.out GW152.out) hk (.inl rfl)); replace HB := zA (hb); replace HI0 := zA (hi); (try clear hb); (try clear hk); (try clear hi); (try clear ho0)) | (refine zBE 5 #[.int .i64 0, .slice none 0 0] 26 ?_; intro gb159 hg w72 hbox hb; replace HO156 := zA (kL (zP HO156.out) hb); replace HB := zA (kQ (zV HB.out (Z101.ge HI0.out) GE152.out) hb); have BK159 := zA (hbox); have GW159 := zA (zB6 hg (kX (w := w) (g := g) (row := none) (yB HK.out GW152.out)) : w.heap.size ≤ gb159); have GE159 := zA ((Nat.le_trans HW0.out (by rw [hg]; exact (kX (w := w) (g := g) (row := none) (yB HK.out GW152.out)) : w.heap.size ≤ gb159) : w0.heap.size ≤ gb159)); replace HK := zA (kT (yB HK.out GW152.out) (kU hb g none) (.inl rfl)); have NB152_159 := zA (zB4 hg BK152.out : gb152 ≠ gb159); have NB159_152 := zA (zB5 hg BK152.out : gb159 ≠ gb152); replace BK152 := zA (zB1 BK152.out hb); have NB0_159 := zA (zB7 hg (Z101.lt (show Z101 w0 _ g s0_0 t157 t158 from Z101.uB HI0.out NB0_152.out)) : g ≠ gb159); have NB159_0 := zA (zB8 hg (Z101.lt (show Z101 w0 _ g s0_0 t157 t158 from Z101.uB HI0.out NB0_152.out)) : gb159 ≠ g); replace HI0 := zA (Z101.below (Z101.uB HI0.out NB0_152.out) hb); clear hb hbox hg; have hnb73 := NB159_152.out; have hnc73 := NB152_159.out; have hnb74 := NB159_0.out; have hnc74 := NB0_159.out; obtain ⟨hcz75_0, hcz75_1, hfz75_0, hfz75_1⟩ := zB3 BK159.out; obtain ⟨Ao76, co76, eo76⟩ := kM HO156.out; subst eo76) | (refine zO (some 11) Tryd.func79 #[.pointer (some ⟨g, 0, none⟩), .int .i64 14] ?_; (with_reducible refine (spec_l01Next.calls g s0_0 t157 t158 14 t160 t161 t162 w0 _ ?side1 ?side2 A4.out).mono ?_); (case side1 => exact Z101.uC HI0.out NB0_152.out NB0_159.out); (case side2 => exact zW HB.out (Z101.ge HI0.out) GE152.out GE159.out); rintro e w77 ⟨rfl, hi, hb, hk⟩; refine ⟨_, rfl, ?_⟩; replace BK152 := zA (KeepBut.blk hk (g' := gb152) (o := .cells #[.int .i64 0, .slice none 0 0] 26 (0, 0)) (zBG BK152.out NB152_159.out NB152_159.out) NB152_0.out (by simp)); replace HO156 := zA (kA (Kd.R_keep (Z101.apart (show Z101 w0 _ g s0_0 t157 t158 from Z101.uC HI0.out NB0_152.out NB0_159.out) (zP (zFG HO156.out BK159.out (.int .i64 t153) (.slice Ao76 t154.length co76))) (by decide)) hk (fun _ h => h.2)) (fun _ h => h.1)); replace BK159 := zA (KeepBut.blk hk (g' := gb159) (o := .cells #[.int .i64 t153, .slice Ao76 t154.length co76] 26 (0, 0)) (zRP BK159.out) NB159_0.out (by simp)); replace HK := zA (kT (yC HK.out GW152.out GW159.out) hk (.inl rfl)); replace HB := zA (hb); replace HI0 := zA (hi); (try clear hb); (try clear hk); (try clear hi)) | (refine zO (some 15) Tryd.func79 #[.pointer (some ⟨g, 0, none⟩), .int .i64 4] ?_; (with_reducible refine (spec_l01Next.calls g s0_0 t161 t162 4 t163 t164 t165 w0 _ ?side1 ?side2 A17.out).mono ?_); (case side1 => exact Z101.uC HI0.out NB0_152.out NB0_159.out); (case side2 => exact zW HB.out (Z101.ge HI0.out) GE152.out GE159.out); rintro e w78 ⟨rfl, hi, hb, hk⟩; refine ⟨_, rfl, ?_⟩; replace BK152 := zA (zB2 hk BK152.out NB152_0.out); replace HO156 := zA (zB9 (Z101.apart (show Z101 w0 _ g s0_0 t161 t162 from Z101.uC HI0.out NB0_152.out NB0_159.out) (zP HO156.out) (by decide)) hk); replace BK159 := zA (zB2 hk BK159.out NB159_0.out); replace HK := zA (kT (yC HK.out GW152.out GW159.out) hk (.inl rfl)); replace HB := zA (hb); replace HI0 := zA (hi); (try clear hb); (try clear hk); (try clear hi); obtain ⟨hcz79_0, hcz79_1, hfz79_0, hfz79_1⟩ := zB3 BK159.out) | (refine zO (some 22) Tryd.func79 #[.pointer (some ⟨g, 0, none⟩), .int .i64 t153] ?_; (with_reducible refine (spec_l01Next.calls g s0_0 t164 t165 t153 t181 t182 t183 w0 _ ?side1 ?side2 A61.out).mono ?_); (case side1 => exact Z101.uC HI0.out NB0_152.out NB0_159.out); (case side2 => exact zW HB.out (Z101.ge HI0.out) GE152.out GE159.out); rintro e w80 ⟨rfl, hi, hb, hk⟩; refine ⟨_, rfl, ?_⟩; replace BK152 := zA (zB2 hk BK152.out NB152_0.out); replace HO156 := zA (zB9 (Z101.apart (show Z101 w0 _ g s0_0 t164 t165 from Z101.uC HI0.out NB0_152.out NB0_159.out) (zP HO156.out) (by decide)) hk); replace BK159 := zA (zB2 hk BK159.out NB159_0.out); replace HK := zA (kT (yC HK.out GW152.out GW159.out) hk (.inl rfl)); replace HB := zA (hb); replace HI0 := zA (hi); (try clear hb); (try clear hk); (try clear hi)))
    replace HO156 := zA (zH HO156.out)
    replace BK152 := zA (zK BK152.out)
    replace BK159 := zA (zK BK159.out)
    replace HI0 := zA (Z101.drew HI0.out)
    replace HK := zA (keep_drew HK.out)
    replace HB := zA (zD HB.out)
    have p184 : 0 ≤ (t181 : Int) := zd
    have q184 : t181 < (t154.length : Int) := zd
    obtain ⟨ad184, e184, hx184_0⟩ := Kd.at_int (kB HO156.out).2.2 t181 p184 q184
    cases e184
    replace p184 := eq_true p184
    replace q184 := eq_true q184
    have p186 : 0 ≤ (t181 : Int) := zd
    have q186 : t181 < (t154.length : Int) := zd
    obtain ⟨ad186, e186, hx186_0⟩ := Kd.at_int (kB HO156.out).2.2 t181 p186 q186
    obtain rfl : ad184 = ad186 := (by injection e186)
    replace p186 := eq_true p186
    replace q186 := eq_true q186
    refine start_ (n := 30) (S := fun w' => w'.cell? ⟨gb159, 0, none⟩ = some (.int .i64 t153) ∧ w'.cell? ⟨gb159, 1, none⟩ = some (.slice (some ad184) t154.length co76) ∧ w'.cell? (ad184.add (t181).toNat) = some (.int .i64 (rd t154 t181)) ∧ w'.cell? (ad184.add (t181).toNat) = some (.int .i64 (rd t154 t181))) (ds := [29]) #[false, false, false, false, false, false, false, false, false, false, false, false, false, false, false, false, false, false, false, false, false, false, false, false, false, false, false, false, false, false] (by kernel_rfl) rfl rfl ⟨(kV BK159.out 0).trans rfl, (kV BK159.out 1).trans rfl, hx184_0, hx186_0⟩ (fun hHeld => ?_); refine with_tabW spec_l02Spoil.tab7 spec_l02Spoil.bits7 (fun HT_ HW_ => ?_)
    generalize w80.drew = w81 at HO156 BK152 BK159 HI0 HK HB hx184_0 hx186_0 hHeld ⊢
    refine zp 0 (some 23) #[true, false, false, false, false, false, false, false, false, false, false, false, false, false, false, false, false, false, false, false, false, false, false, false, false, false, false, false, false, false] HT_.out ?_
    refine zp 2 (some 25) #[true, false, true, false, false, false, false, false, false, false, false, false, false, false, false, false, false, false, false, false, false, false, false, false, false, false, false, false, false, false] HT_.out ?_
    refine zp 3 (some 26) #[true, false, true, true, false, false, false, false, false, false, false, false, false, false, false, false, false, false, false, false, false, false, false, false, false, false, false, false, false, false] HT_.out ?_
    refine zp 4 (some 27) #[true, false, true, true, true, false, false, false, false, false, false, false, false, false, false, false, false, false, false, false, false, false, false, false, false, false, false, false, false, false] HT_.out ?_
    refine zp 6 (some 29) #[true, false, true, true, true, false, true, false, false, false, false, false, false, false, false, false, false, false, false, false, false, false, false, false, false, false, false, false, false, false] HT_.out ?_
    refine zp 9 (some 32) #[true, false, true, true, true, false, true, false, false, true, false, false, false, false, false, false, false, false, false, false, false, false, false, false, false, false, false, false, false, false] HT_.out ?_
    refine zp 12 (some 35) #[true, false, true, true, true, false, true, false, false, true, false, false, true, false, false, false, false, false, false, false, false, false, false, false, false, false, false, false, false, false] HT_.out ?_
    refine zp 14 (some 37) #[true, false, true, true, true, false, true, false, false, true, false, false, true, false, true, false, false, false, false, false, false, false, false, false, false, false, false, false, false, false] HT_.out ?_
    refine zp 17 (some 40) #[true, false, true, true, true, false, true, false, false, true, false, false, true, false, true, false, false, true, false, false, false, false, false, false, false, false, false, false, false, false] HT_.out ?_
    refine zp 21 (some 44) #[true, false, true, true, true, false, true, false, false, true, false, false, true, false, true, false, false, true, false, false, false, true, false, false, false, false, false, false, false, false] HT_.out ?_
    refine zp 22 (some 45) #[true, false, true, true, true, false, true, false, false, true, false, false, true, false, true, false, false, true, false, false, false, true, true, false, false, false, false, false, false, false] HT_.out ?_
    refine zf 1 (some 24) #[true, true, true, true, true, false, true, false, false, true, false, false, true, false, true, false, false, true, false, false, false, true, true, false, false, false, false, false, false, false] HT_.out HW_.out hHeld ?_
    refine zf 5 (some 28) #[true, true, true, true, true, true, true, false, false, true, false, false, true, false, true, false, false, true, false, false, false, true, true, false, false, false, false, false, false, false] HT_.out HW_.out hHeld ?_
    refine zp 7 (some 30) #[true, true, true, true, true, true, true, true, false, true, false, false, true, false, true, false, false, true, false, false, false, true, true, false, false, false, false, false, false, false] HT_.out ?_
    refine zf 8 (some 31) #[true, true, true, true, true, true, true, true, true, true, false, false, true, false, true, false, false, true, false, false, false, true, true, false, false, false, false, false, false, false] HT_.out HW_.out hHeld ?_
    refine zf 13 (some 36) #[true, true, true, true, true, true, true, true, true, true, false, false, true, true, true, false, false, true, false, false, false, true, true, false, false, false, false, false, false, false] HT_.out HW_.out hHeld ?_
    refine zp 15 (some 38) #[true, true, true, true, true, true, true, true, true, true, false, false, true, true, true, true, false, true, false, false, false, true, true, false, false, false, false, false, false, false] HT_.out ?_
    refine zf 16 (some 39) #[true, true, true, true, true, true, true, true, true, true, false, false, true, true, true, true, true, true, false, false, false, true, true, false, false, false, false, false, false, false] HT_.out HW_.out hHeld ?_
    refine zf 18 (some 41) #[true, true, true, true, true, true, true, true, true, true, false, false, true, true, true, true, true, true, true, false, false, true, true, false, false, false, false, false, false, false] HT_.out HW_.out hHeld ?_
    refine zf 23 (some 46) #[true, true, true, true, true, true, true, true, true, true, false, false, true, true, true, true, true, true, true, false, false, true, true, true, false, false, false, false, false, false] HT_.out HW_.out hHeld ?_
    refine one_ (i := 10) (N := some 33) #[true, true, true, true, true, true, true, true, true, true, true, false, true, true, true, true, true, true, true, false, false, true, true, true, false, false, false, false, false, false] rfl rfl (one_of HT_.out (by kernel_rfl)) (by decide) (fun K hK => ?_)
    refine goes_ Tryd.func54 (by kernel_rfl) rfl #[.int .i64 t181] (by rfl) rfl rfl zg ?_
    with_reducible refine (spec_l01One.calls t181 t185 _ A64.out).mono ?_
    rintro e w' ⟨rfl, ⟨nd, rfl⟩⟩
    refine ⟨_, rfl, ?_⟩
    refine hK.out _ _ ⟨(kV BK159.out 0).trans rfl, (kV BK159.out 1).trans rfl, hHeld.2.2.1, hHeld.2.2.2⟩ (fun hHeld => ?_)
    clear hK K
    refine norm_ (a' := ?_) ?_ ?_
    rotate_left
    ·show Act.put _ (some 33) _ = _
     simp only [Act.put, zL, zM, zN, i64_w, i32_w]
     rfl
    refine zp 11 (some 34) #[true, true, true, true, true, true, true, true, true, true, true, true, true, true, true, true, true, true, true, false, false, true, true, true, false, false, false, false, false, false] HT_.out ?_
    refine one_ (i := 19) (N := some 42) #[true, true, true, true, true, true, true, true, true, true, true, true, true, true, true, true, true, true, true, true, false, true, true, true, false, false, false, false, false, false] rfl rfl (one_of HT_.out (by kernel_rfl)) (by decide) (fun K hK => ?_)
    refine goes_ Tryd.func54 (by kernel_rfl) rfl #[.int .i64 t153] (by rfl) rfl rfl zg ?_
    with_reducible refine (spec_l01One.calls t153 t187 _ A65.out).mono ?_
    rintro e w' ⟨rfl, ⟨nd, rfl⟩⟩
    refine ⟨_, rfl, ?_⟩
    refine hK.out _ _ ⟨(kV BK159.out 0).trans rfl, (kV BK159.out 1).trans rfl, hHeld.2.2.1, hHeld.2.2.2⟩ (fun hHeld => ?_)
    clear hK K
    refine norm_ (a' := ?_) ?_ ?_
    rotate_left
    ·show Act.put _ (some 42) _ = _
     simp only [Act.put, zL, zM, zN, i64_w, i32_w]
     rfl
    refine zp 20 (some 43) #[true, true, true, true, true, true, true, true, true, true, true, true, true, true, true, true, true, true, true, true, true, true, true, true, false, false, false, false, false, false] HT_.out ?_
    refine one_ (i := 24) (N := some 47) #[true, true, true, true, true, true, true, true, true, true, true, true, true, true, true, true, true, true, true, true, true, true, true, true, true, false, false, false, false, false] rfl rfl (one_of HT_.out (by kernel_rfl)) (by decide) (fun K hK => ?_)
    refine goes_ Tryd.func54 (by kernel_rfl) rfl #[.int .i64 t153] (by rfl) rfl rfl zg ?_
    with_reducible refine (spec_l01One.calls t153 t188 _ A66.out).mono ?_
    rintro e w' ⟨rfl, ⟨nd, rfl⟩⟩
    refine ⟨_, rfl, ?_⟩
    refine hK.out _ _ ⟨(kV BK159.out 0).trans rfl, (kV BK159.out 1).trans rfl, hHeld.2.2.1, hHeld.2.2.2⟩ (fun hHeld => ?_)
    clear hK K
    refine norm_ (a' := ?_) ?_ ?_
    rotate_left
    ·show Act.put _ (some 47) _ = _
     simp only [Act.put, zL, zM, zN, i64_w, i32_w]
     rfl
    refine one_ (i := 25) (N := some 48) #[true, true, true, true, true, true, true, true, true, true, true, true, true, true, true, true, true, true, true, true, true, true, true, true, true, true, false, false, false, false] rfl rfl (one_of HT_.out (by kernel_rfl)) (by decide) (fun K hK => ?_)
    refine goes_ Tryd.func79 (by kernel_rfl) rfl #[.pointer (some ⟨g, 0, none⟩), .int .i64 t188] (by rfl) rfl rfl zg ?_
    with_reducible refine (spec_l01Next.calls g s0_0 t182 t183 t188 t189 t190 t191 w0 _ ?side1 ?side2 A67.out).mono ?_
    (case side1 => exact Z101.uC HI0.out NB0_152.out NB0_159.out)
    (case side2 => exact zW HB.out (Z101.ge HI0.out) GE152.out GE159.out)
    rintro e w82 ⟨rfl, hi, hb, hk⟩
    have HS2_ := keep_cell hk (hHeld.2.2.1) (by first | (rw [add_block]; exact Kd.own_blk (Z101.own_ne HI0.out HO156.out (by decide))) | (show (Addr.add _ _).block ≠ _; rw [add_block]; exact Kd.own_blk (Z101.own_ne HI0.out HO156.out (by decide))) | exact Kd.own_blk (Z101.own_ne HI0.out HO156.out (by decide)))
    have HS3_ := keep_cell hk (hHeld.2.2.2) (by first | (rw [add_block]; exact Kd.own_blk (Z101.own_ne HI0.out HO156.out (by decide))) | (show (Addr.add _ _).block ≠ _; rw [add_block]; exact Kd.own_blk (Z101.own_ne HI0.out HO156.out (by decide))) | exact Kd.own_blk (Z101.own_ne HI0.out HO156.out (by decide)))
    refine ⟨_, rfl, ?_⟩
    replace BK152 := zA (zB2 hk BK152.out NB152_0.out)
    replace HO156 := zA (zB9 (Z101.apart (show Z101 w0 _ g s0_0 t182 t183 from Z101.uC HI0.out NB0_152.out NB0_159.out) (zP HO156.out) (by decide)) hk)
    replace BK159 := zA (zB2 hk BK159.out NB159_0.out)
    replace HK := zA (kT (yC HK.out GW152.out GW159.out) hk (.inl rfl))
    replace HB := zA (hb)
    replace HI0 := zA (hi)
    (try clear hb)
    (try clear hb2)
    (try clear hk)
    (try clear hi)
    (try clear hgw)
    refine hK.out _ _ ⟨(kV BK159.out 0).trans rfl, (kV BK159.out 1).trans rfl, HS2_, HS3_⟩ (fun hHeld => ?_)
    clear hK K
    refine norm_ (a' := ?_) ?_ ?_
    rotate_left
    ·show Act.put _ (some 48) _ = _
     simp only [Act.put, zL, zM, zN, i64_w, i32_w]
     rfl
    refine one_ (i := 26) (N := some 49) #[true, true, true, true, true, true, true, true, true, true, true, true, true, true, true, true, true, true, true, true, true, true, true, true, true, true, true, false, false, false] rfl rfl (one_of HT_.out (by kernel_rfl)) (by decide) (fun K hK => ?_)
    refine Kd.R_lit_step (Kd.int .i64) _ 2 ?hg (N := 49) ?hd (xs := ([wrap64 ((rd t154 t181) - t185), Go.bits .or .i64 (rd t154 t181) t187, t189, (-1)] : List Int)) (inner := [.int .i64 (wrap64 ((rd t154 t181) - t185)), .int .i64 (Go.bits .or .i64 (rd t154 t181) t187), .int .i64 t189, .int .i64 (-1)]) (ok := fun _ => True) (okp := fun _ => True) ?hr ?hp (fun _ hk => hk) trivial (kW _ _) (Nat.le_refl _) (by simp) ?_; (case hd => rfl); (case hg => rfl); (case hr => first | (go_simp; done) | (go_simp; rfl)); (case hp => exact (Reps.one (show Kd.M (Kd.int .i64) _ _ _ (wrap64 ((rd t154 t181) - t185)) [.int .i64 (wrap64 ((rd t154 t181) - t185))] from rfl) (Reps.one (show Kd.M (Kd.int .i64) _ _ _ (Go.bits .or .i64 (rd t154 t181) t187) [.int .i64 (Go.bits .or .i64 (rd t154 t181) t187)] from rfl) (Reps.one (show Kd.M (Kd.int .i64) _ _ _ t189 [.int .i64 t189] from rfl) (Reps.one (show Kd.M (Kd.int .i64) _ _ _ (-1) [.int .i64 (-1)] from rfl) (Reps.none _ _))))))
    intro v193 w83 ho84 hb hg_ hnew_
    have HS2_ := (hb.cell (jG _ _ (hHeld.2.2.1))).trans (hHeld.2.2.1)
    have HS3_ := (hb.cell (jG _ _ (hHeld.2.2.2))).trans (hHeld.2.2.2)
    clear hg_ hnew_
    (first | rw [← Ny192.out] at ho84 | (simp only [Int.reduceToNat] at ho84; rw [← Ny192.out] at ho84))
    have HO194 := zA (kI (kF ho84 (kH (zP HO156.out))) (kX (w := w) (g := g) (row := none) (yC HK.out GW152.out GW159.out)))
    replace HO156 := zA (kE (zP HO156.out) (kC ho84) hb)
    replace BK152 := zA (zB1 BK152.out hb)
    replace BK159 := zA (zB1 BK159.out hb)
    replace HK := zA (kT (yC HK.out GW152.out GW159.out) (kU hb g none) (.inl rfl))
    replace HB := zA (kQ (zW HB.out (Z101.ge HI0.out) GE152.out GE159.out) hb)
    replace HI0 := zA (Z101.below (Z101.uC HI0.out NB0_152.out NB0_159.out) hb)
    clear hb ho84
    obtain ⟨Ao85, co85, eo85⟩ := kM HO194.out
    (first | subst eo85 | (injection eo85 with f1_ f2_ f3_; have f4_ := f1_.symm; have f5_ := f3_.symm; clear f1_ f2_ f3_; subst f4_; subst f5_))
    refine hK.out _ _ ⟨(kV BK159.out 0).trans rfl, (kV BK159.out 1).trans rfl, HS2_, HS3_⟩ (fun hHeld => ?_)
    clear hK K
    refine norm_ (a' := ?_) ?_ ?_
    rotate_left
    ·show Act.put _ (some 49) _ = _
     simp only [Act.put, zL, zM, zN, i64_w, i32_w]
     rfl
    refine one_ (i := 27) (N := some 50) #[true, true, true, true, true, true, true, true, true, true, true, true, true, true, true, true, true, true, true, true, true, true, true, true, true, true, true, true, false, false] rfl rfl (one_of HT_.out (by kernel_rfl)) (by decide) (fun K hK => ?_)
    refine goes_ Tryd.func81 (by kernel_rfl) rfl #[.pointer (some ⟨g, 0, none⟩), .slice Ao85 y192.length co85] (by rfl) rfl rfl zg ?_
    with_reducible refine (spec_l01Pick.calls g s0_0 t190 t191 _ _ y192 t195 t196 t197 w0 _ ?side1 ?side2 ?side3 ?side4 ?side5 A68.out).mono ?_
    (case side1 => exact Z101.uC HI0.out NB0_152.out NB0_159.out)
    (case side2 => exact zW HB.out (Z101.ge HI0.out) GE152.out GE159.out)
    (case side3 => exact zS (kB HO194.out).2.2)
    (case side4 => exact (kB HO194.out).2.1)
    (case side5 => exact jJ (Z101.own_ne HI0.out HO194.out (by decide)))
    rintro e w86 ⟨rfl, hi, hb, hk⟩
    have HS2_ := keep_cell hk (hHeld.2.2.1) (by first | (rw [add_block]; exact Kd.own_blk (Z101.own_ne HI0.out HO156.out (by decide))) | (show (Addr.add _ _).block ≠ _; rw [add_block]; exact Kd.own_blk (Z101.own_ne HI0.out HO156.out (by decide))) | exact Kd.own_blk (Z101.own_ne HI0.out HO156.out (by decide)))
    have HS3_ := keep_cell hk (hHeld.2.2.2) (by first | (rw [add_block]; exact Kd.own_blk (Z101.own_ne HI0.out HO156.out (by decide))) | (show (Addr.add _ _).block ≠ _; rw [add_block]; exact Kd.own_blk (Z101.own_ne HI0.out HO156.out (by decide))) | exact Kd.own_blk (Z101.own_ne HI0.out HO156.out (by decide)))
    refine ⟨_, rfl, ?_⟩
    replace BK152 := zA (zB2 hk BK152.out NB152_0.out)
    replace HO156 := zA (zB9 (Z101.apart (show Z101 w0 _ g s0_0 t190 t191 from Z101.uC HI0.out NB0_152.out NB0_159.out) (zP HO156.out) (by decide)) hk)
    replace BK159 := zA (zB2 hk BK159.out NB159_0.out)
    replace HO194 := zA (zB9 (Z101.apart (show Z101 w0 _ g s0_0 t190 t191 from Z101.uC HI0.out NB0_152.out NB0_159.out) (zP HO194.out) (by decide)) hk)
    replace HK := zA (kT (yC HK.out GW152.out GW159.out) hk (.inl rfl))
    replace HB := zA (hb)
    replace HI0 := zA (hi)
    (try clear hb)
    (try clear hb2)
    (try clear hk)
    (try clear hi)
    (try clear hgw)
    have p69 : 0 ≤ (t181 : Int) := zd
    have q69 : (t181 : Int) < ((t154.length : Int) : Int) := zd
    obtain ⟨go69, co69, eo69, gb69, gl69, cl69, HG69⟩ := Kd.R_form HO156.out (by omega)
    (first | cases eo69 | (injection eo69 with ea_ en_ ec_; (first | subst ea_ | (injection ea_ with ea_; subst ea_)); subst ec_; clear en_))
    have GB69 := zA gb69
    have GG69 := zA HG69
    clear gb69 gl69 HG69
    (first | simp only [add_plain] at hx184_0 | skip)
    (first | simp only [add_plain] at hx186_0 | skip)
    obtain ⟨hx69_0, hf69_0⟩ := Kd.R_celln 0 HO156.out (t181 : Int) p69 q69
    replace p69 := eq_true p69
    replace q69 := eq_true q69
    have HN0_go69 := zA (show g ≠ go69 from by have h_ := Z101.own_ne HI0.out HO156.out (by decide); intro e_; exact h_ (by rw [e_]; rfl))
    have HP87 := Kd.R_putn HO156.out (t181 : Int) t195
    rw [← Ny198.out] at HP87
    have HQ87 := zA HP87
    clear HP87
    refine hK.out _ _ ⟨(kV BK159.out 0).trans rfl, (kV BK159.out 1).trans rfl, HS2_, HS3_⟩ (fun hHeld => ?_)
    clear hK K
    refine norm_ (a' := ?_) ?_ ?_
    rotate_left
    ·show Act.put _ (some 50) _ = _
     simp only [Act.put, zL, zM, zN, i64_w, i32_w]
     rfl
    refine zp 28 (some 51) #[true, true, true, true, true, true, true, true, true, true, true, true, true, true, true, true, true, true, true, true, true, true, true, true, true, true, true, true, true, false] HT_.out ?_
    refine last_ (i := 29) (N := none) #[true, true, true, true, true, true, true, true, true, true, true, true, true, true, true, true, true, true, true, true, true, true, true, true, true, true, true, true, true, true] rfl rfl (one_of HT_.out (by kernel_rfl)) (by decide) (fun K hK => ?_)
    refine skip_ (w1 := ?_) (by rfl) rfl ?_ ?_
    rotate_left
    ·go_simp
     rfl
    refine hK.out _ _ ?_
    clear hK K
    refine done_ (done_of HT_.out (by kernel_rfl)) ?_
    have n0_ : Aside0 (Kd.R (Kd.int .i64) 2 (w86.setCell ⟨go69, (t181 : Int).toNat, none⟩ (.int .i64 t195)) w.heap.size (fun k_ => some k_ ≠ (.slice Ao85 y192.length co85 : Value).ownBlock) (.slice (some ⟨go69, 0, none⟩) t154.length co76) y198) := ⟨zPM HQ87.out (fun _ hk => hk.2)⟩
    have n1_ : Aside0 (Kd.R (Kd.int .i64) 2 (w86.setCell ⟨go69, (t181 : Int).toNat, none⟩ (.int .i64 t195)) w.heap.size (fun k_ => some k_ ≠ (.slice (some ⟨go69, 0, none⟩) t154.length co76 : Value).ownBlock) (.slice Ao85 y192.length co85) y192) := ⟨by (with_reducible repeat (first | apply zF | apply zG | apply zH)); exact kA (kY (p := ⟨go69, (t181 : Int).toNat, none⟩) (kA HO194.out (fun k_ hk => (⟨hk, fun e_ => hk.2 (by rw [e_]; rfl)⟩ : _ ∧ k_ ≠ go69))) (fun _ hk => hk.2) (.int .i64 t195)) (fun _ hk => hk.1.2)⟩
    have n2_ : Aside0 ((w86.setCell ⟨go69, (t181 : Int).toNat, none⟩ (.int .i64 t195)).heap[gb152]? = some (.cells #[.int .i64 0, .slice none 0 0] 26 (0, 0))) := ⟨by (with_reducible repeat (first | refine zJ ?_ _ | refine zK ?_ | refine zI ?_ _)); refine blk_far ?_ (by have h_ := Kd.R_ne HO156.out BK152.out (by decide); intro e_; exact h_ (by rw [e_]; rfl)) _; (with_reducible repeat (first | refine zJ ?_ _ | refine zK ?_ | refine zI ?_ _)); exact BK152.out⟩
    have n3_ : Aside0 ((w86.setCell ⟨go69, (t181 : Int).toNat, none⟩ (.int .i64 t195)).heap[gb159]? = some (.cells #[.int .i64 t153, .slice (some ⟨go69, 0, none⟩) t154.length co76] 26 (0, 0))) := ⟨by (with_reducible repeat (first | refine zJ ?_ _ | refine zK ?_ | refine zI ?_ _)); refine blk_far ?_ (by have h_ := Kd.R_ne HO156.out BK159.out (by decide); intro e_; exact h_ (by rw [e_]; rfl)) _; (with_reducible repeat (first | refine zJ ?_ _ | refine zK ?_ | refine zI ?_ _)); exact BK159.out⟩
    have n4_ : Aside0 (Z101 w0 (w86.setCell ⟨go69, (t181 : Int).toNat, none⟩ (.int .i64 t195)) g s0_0 t196 t197) := ⟨by repeat (first | (with_reducible first | exact HI0.out | apply Z101.alloc | apply Z101.drewN | apply Z101.drew | apply Z101.set_1 | apply Z101.set_2 | refine Z101.far ?_ HN0_go69.out _ | refine Z101.far ?_ NB0_152.out _ | refine Z101.far ?_ NB0_159.out _) | exact HI0.out)⟩
    have n5_ : Aside0 (KeepBut w (w86.setCell ⟨go69, (t181 : Int).toNat, none⟩ (.int .i64 t195)) g none) := ⟨by repeat (first | (with_reducible first | exact HK.out | apply KeepBut.set_ | apply keep_drewN | apply keep_drew | apply keep_alloc | refine keep_far ?_ GB69.out _ | refine keep_far ?_ GW152.out _ | refine keep_far ?_ GW159.out _) | exact HK.out)⟩
    have n6_ : Aside0 (Below w0.heap.size w0 (w86.setCell ⟨go69, (t181 : Int).toNat, none⟩ (.int .i64 t195))) := ⟨by repeat (first | (with_reducible first | exact HB.out | apply zB | apply zC | apply zD | refine zE ?_ (Nat.le_trans HL.out GB69.out) | refine zE ?_ (Z101.ge HI0.out) | refine zE ?_ GE152.out | refine zE ?_ GE159.out) | exact HB.out)⟩
    (try clear HO156)
    (try clear HO194)
    (try clear BK152)
    (try clear BK159)
    (try clear HI0)
    (try clear HK)
    (try clear HB)
    generalize (w86.setCell ⟨go69, (t181 : Int).toNat, none⟩ (.int .i64 t195)) = w88 at n0_ n1_ n2_ n3_ n4_ n5_ n6_ ⊢
    have HO156 := n0_
    have HO194 := n1_
    have BK152 := n2_
    have BK159 := n3_
    have HI0 := n4_
    have HK := n5_
    have HB := n6_
    clear n0_ n1_ n2_ n3_ n4_ n5_ n6_
    obtain ⟨hcz89_0, hcz89_1, hfz89_0, hfz89_1⟩ := zB3 BK159.out
    have hnb90 := NB152_0.out
    have hnc90 := NB0_152.out
    obtain ⟨hcz91_0, hcz91_1, hfz91_0, hfz91_1⟩ := zB3 BK152.out
    try go_wp2
    refine bodyPost_ret (results_cell_row rfl _ _ gb152 26 #[.int .i64 t153, .slice (some ⟨go69, 0, none⟩) t154.length co76] (0, 0) _ rfl (zRP BK152.out) Tryd.underlying26 rfl (by kernel_rfl)) rfl ?_
    exact ⟨_, zr, by (with_reducible repeat (first | apply zF | apply zG | apply zH)); exact kA (kY (p := ⟨gb152, 1, none⟩) (kY (p := ⟨gb152, 0, none⟩) (kD HO156.out BK152.out (by decide)) (fun _ hk => hk.2) (.int .i64 t153)) (fun _ hk => hk.2) (.slice (some ⟨go69, 0, none⟩) t154.length co76)) (fun _ hk => trivial), by repeat (first | (with_reducible first | exact HI0.out | apply Z101.alloc | apply Z101.drewN | apply Z101.drew | apply Z101.set_1 | apply Z101.set_2 | refine Z101.far ?_ NB0_152.out _ | refine Z101.far ?_ NB0_159.out _) | exact HI0.out), zW HB.out (Z101.ge HI0.out) GE152.out GE159.out, by repeat (first | (with_reducible first | exact HK.out | apply KeepBut.set_ | apply keep_drewN | apply keep_drew | apply keep_alloc | refine keep_far ?_ GW152.out _ | refine keep_far ?_ GW159.out _) | exact HK.out)⟩
   rw [if_neg c63] at H
   exact absurd H (by simp)
  rw [if_neg c62] at H
  exact absurd H (by simp)
 rw [if_neg c60] at H
 have c60b0 : decide (0 < t153) = false := decide_eq_false c60
 clear c60
 simp only [Option.some.injEq, Prod.mk.injEq] at H
 obtain ⟨rfl, rfl, rfl, rfl⟩ := H
 go_enter Tryd.func98, Tryd.ntmps98
 go_wp2_with (first | (refine zBE 4 #[.int .i64 0, .slice none 0 0] 26 ?_; intro gb152 hg w92 hbox hb; replace HB := zA (kQ (zT HB.out (Z101.ge HI0.out)) hb); have BK152 := zA (hbox); have GW152 := zA (zB6 hg (kX (w := w) (g := g) (row := none) (yA HK.out)) : w.heap.size ≤ gb152); have GE152 := zA ((Nat.le_trans HW0.out (by rw [hg]; exact (kX (w := w) (g := g) (row := none) (yA HK.out)) : w.heap.size ≤ gb152) : w0.heap.size ≤ gb152)); replace HK := zA (kT (yA HK.out) (kU hb g none) (.inl rfl)); have NB0_152 := zA (zB7 hg (Z101.lt (show Z101 w0 _ g s0_0 s0_1 s0_2 from Z101.uA HI0.out)) : g ≠ gb152); have NB152_0 := zA (zB8 hg (Z101.lt (show Z101 w0 _ g s0_0 s0_1 s0_2 from Z101.uA HI0.out)) : gb152 ≠ g); replace HI0 := zA (Z101.below (Z101.uA HI0.out) hb); clear hb hbox hg) | (refine zO (some 9) Tryd.func97 #[.pointer (some ⟨g, 0, none⟩), .int .i64 a1] ?_; (with_reducible refine (spec_l02Draw.calls k g s0_0 s0_1 s0_2 a1 t153 t154 t157 t158 w0 _ ?side1 ?side2 A3.out).mono ?_); (case side1 => exact Z101.uB HI0.out NB0_152.out); (case side2 => exact zV HB.out (Z101.ge HI0.out) GE152.out); rintro e w93 ⟨v155, rfl, ho0, hi, hb, hk⟩; refine ⟨_, rfl, ?_⟩; replace BK152 := zA (zB2 hk BK152.out NB152_0.out); have HO156 := zA (kI ho0 (kX (w := w) (g := g) (row := none) (yB HK.out GW152.out))); replace HK := zA (kT (yB HK.out GW152.out) hk (.inl rfl)); replace HB := zA (hb); replace HI0 := zA (hi); (try clear hb); (try clear hk); (try clear hi); (try clear ho0)) | (refine zBE 5 #[.int .i64 0, .slice none 0 0] 26 ?_; intro gb159 hg w94 hbox hb; replace HO156 := zA (kL (zP HO156.out) hb); replace HB := zA (kQ (zV HB.out (Z101.ge HI0.out) GE152.out) hb); have BK159 := zA (hbox); have GW159 := zA (zB6 hg (kX (w := w) (g := g) (row := none) (yB HK.out GW152.out)) : w.heap.size ≤ gb159); have GE159 := zA ((Nat.le_trans HW0.out (by rw [hg]; exact (kX (w := w) (g := g) (row := none) (yB HK.out GW152.out)) : w.heap.size ≤ gb159) : w0.heap.size ≤ gb159)); replace HK := zA (kT (yB HK.out GW152.out) (kU hb g none) (.inl rfl)); have NB152_159 := zA (zB4 hg BK152.out : gb152 ≠ gb159); have NB159_152 := zA (zB5 hg BK152.out : gb159 ≠ gb152); replace BK152 := zA (zB1 BK152.out hb); have NB0_159 := zA (zB7 hg (Z101.lt (show Z101 w0 _ g s0_0 t157 t158 from Z101.uB HI0.out NB0_152.out)) : g ≠ gb159); have NB159_0 := zA (zB8 hg (Z101.lt (show Z101 w0 _ g s0_0 t157 t158 from Z101.uB HI0.out NB0_152.out)) : gb159 ≠ g); replace HI0 := zA (Z101.below (Z101.uB HI0.out NB0_152.out) hb); clear hb hbox hg; have hnb95 := NB159_152.out; have hnc95 := NB152_159.out; have hnb96 := NB159_0.out; have hnc96 := NB0_159.out; obtain ⟨hcz97_0, hcz97_1, hfz97_0, hfz97_1⟩ := zB3 BK159.out; obtain ⟨Ao98, co98, eo98⟩ := kM HO156.out; subst eo98) | (refine zO (some 11) Tryd.func79 #[.pointer (some ⟨g, 0, none⟩), .int .i64 14] ?_; (with_reducible refine (spec_l01Next.calls g s0_0 t157 t158 14 t160 t161 t162 w0 _ ?side1 ?side2 A4.out).mono ?_); (case side1 => exact Z101.uC HI0.out NB0_152.out NB0_159.out); (case side2 => exact zW HB.out (Z101.ge HI0.out) GE152.out GE159.out); rintro e w99 ⟨rfl, hi, hb, hk⟩; refine ⟨_, rfl, ?_⟩; replace BK152 := zA (KeepBut.blk hk (g' := gb152) (o := .cells #[.int .i64 0, .slice none 0 0] 26 (0, 0)) (zBG BK152.out NB152_159.out NB152_159.out) NB152_0.out (by simp)); replace HO156 := zA (kA (Kd.R_keep (Z101.apart (show Z101 w0 _ g s0_0 t157 t158 from Z101.uC HI0.out NB0_152.out NB0_159.out) (zP (zFG HO156.out BK159.out (.int .i64 t153) (.slice Ao98 t154.length co98))) (by decide)) hk (fun _ h => h.2)) (fun _ h => h.1)); replace BK159 := zA (KeepBut.blk hk (g' := gb159) (o := .cells #[.int .i64 t153, .slice Ao98 t154.length co98] 26 (0, 0)) (zRP BK159.out) NB159_0.out (by simp)); replace HK := zA (kT (yC HK.out GW152.out GW159.out) hk (.inl rfl)); replace HB := zA (hb); replace HI0 := zA (hi); (try clear hb); (try clear hk); (try clear hi)) | (refine zO (some 15) Tryd.func79 #[.pointer (some ⟨g, 0, none⟩), .int .i64 4] ?_; (with_reducible refine (spec_l01Next.calls g s0_0 t161 t162 4 t163 t164 t165 w0 _ ?side1 ?side2 A17.out).mono ?_); (case side1 => exact Z101.uC HI0.out NB0_152.out NB0_159.out); (case side2 => exact zW HB.out (Z101.ge HI0.out) GE152.out GE159.out); rintro e w100 ⟨rfl, hi, hb, hk⟩; refine ⟨_, rfl, ?_⟩; replace BK152 := zA (zB2 hk BK152.out NB152_0.out); replace HO156 := zA (zB9 (Z101.apart (show Z101 w0 _ g s0_0 t161 t162 from Z101.uC HI0.out NB0_152.out NB0_159.out) (zP HO156.out) (by decide)) hk); replace BK159 := zA (zB2 hk BK159.out NB159_0.out); replace HK := zA (kT (yC HK.out GW152.out GW159.out) hk (.inl rfl)); replace HB := zA (hb); replace HI0 := zA (hi); (try clear hb); (try clear hk); (try clear hi); obtain ⟨hcz101_0, hcz101_1, hfz101_0, hfz101_1⟩ := zB3 BK159.out; have hnb102 := NB152_0.out; have hnc102 := NB0_152.out; obtain ⟨hcz103_0, hcz103_1, hfz103_0, hfz103_1⟩ := zB3 BK152.out))
 refine bodyPost_ret (results_cell_row rfl _ _ gb152 26 #[.int .i64 t153, .slice Ao98 t154.length co98] (0, 0) _ rfl (zRP BK152.out) Tryd.underlying26 rfl (by kernel_rfl)) rfl ?_
 exact ⟨_, zr, by (with_reducible repeat (first | apply zF | apply zG | apply zH)); exact kA (kY (p := ⟨gb152, 1, none⟩) (kY (p := ⟨gb152, 0, none⟩) (kD HO156.out BK152.out (by decide)) (fun _ hk => hk.2) (.int .i64 t153)) (fun _ hk => hk.2) (.slice Ao98 t154.length co98)) (fun _ hk => trivial), by repeat (first | (with_reducible first | exact HI0.out | apply Z101.alloc | apply Z101.drewN | apply Z101.drew | apply Z101.set_1 | apply Z101.set_2 | refine Z101.far ?_ NB0_152.out _ | refine Z101.far ?_ NB0_159.out _) | exact HI0.out), zW HB.out (Z101.ge HI0.out) GE152.out GE159.out, by repeat (first | (with_reducible first | exact HK.out | apply KeepBut.set_ | apply keep_drewN | apply keep_drew | apply keep_alloc | refine keep_far ?_ GW152.out _ | refine keep_far ?_ GW159.out _) | exact HK.out)⟩
def spec_l01In.f (a0 : Int) (a1 : Int) (a2 : Int) : Option (Bool) := if a0 ≥ a1 then (some (decide (a0 ≤ a2))) else (some false)
set_option maxHeartbeats 8000000 in
set_option maxRecDepth 100000 in
theorem spec_l01In.calls (a0 : Int) (a1 : Int) (a2 : Int) (r : Bool) (w : World) (h : spec_l01In.f a0 a1 a2 = some r) :
  Calls Tryd.prog 64 #[.int .i64 a0, .int .i64 a1, .int .i64 a2] w fun e w' => e = .returned (.bool r) ∧ Drawn0 w w' := by
 have H := h
 unfold spec_l01In.f at H
 clear h
 by_cases c4 : a0 ≥ a1
 ·rw [if_pos c4] at H
  have c4b0 : decide (a1 ≤ a0) = true := decide_eq_true c4
  clear c4
  obtain rfl := Option.some.inj H
  go_enter Tryd.func64, Tryd.ntmps64
  go_wp2
  go_ret
  exact ⟨zs, by repeat (first | exact Drawn0.refl _ | apply Drawn0.step)⟩
 rw [if_neg c4] at H
 have c4b0 : decide (a1 ≤ a0) = false := decide_eq_false c4
 clear c4
 obtain rfl := Option.some.inj H
 go_enter Tryd.func64, Tryd.ntmps64
 go_wp2
 go_ret
 exact ⟨zs, by repeat (first | exact Drawn0.refl _ | apply Drawn0.step)⟩
def spec_l01Bit.f (a0 : Int) (a1 : Int) : Option (Bool) := if 0 ≤ (IntKind.u64.wrap (a1)) then (some ((Go.bits .and .i64 (shr .i64 a0 (IntKind.u64.wrap (a1))) 1) == 1)) else (none)
set_option maxHeartbeats 8000000 in
set_option maxRecDepth 100000 in
theorem spec_l01Bit.calls (a0 : Int) (a1 : Int) (r : Bool) (w : World) (h : spec_l01Bit.f a0 a1 = some r) :
  Calls Tryd.prog 66 #[.int .i64 a0, .int .i64 a1] w fun e w' => e = .returned (.bool r) ∧ Drawn0 w w' := by
 have H := h
 unfold spec_l01Bit.f at H
 clear h
 obtain ⟨ji3, hji3⟩ : ∃ j_ : Int, (IntKind.u64.wrap (a1)) = j_ := ⟨_, rfl⟩
 replace H : (if 0 ≤ (ji3) then (some ((Go.bits .and .i64 (shr .i64 a0 (ji3)) 1) == 1)) else (none)) = some r := by first | (rw [hji3] at H; exact H) | (simp only [hji3] at H ⊢; exact H)
 by_cases c4 : 0 ≤ (ji3)
 ·rw [if_pos c4] at H
  have c4b0 := eq_true c4
  have c4b1 : decide (0 ≤ (ji3)) = true := decide_eq_true c4
  clear c4
  obtain ⟨ji5, hji5⟩ : ∃ j_ : Int, (shr .i64 a0 (ji3)) = j_ := ⟨_, rfl⟩
  replace H : (some ((Go.bits .and .i64 (ji5) 1) == 1)) = some r := by first | (rw [hji5] at H; exact H) | (simp only [hji5] at H ⊢; exact H)
  have hji5_ : (a0 / 2 ^ min (ji3).toNat 64) = ji5 := hji5
  have hji5z : (ji3) ≤ 64 → (a0 / 2 ^ (ji3).toNat) = ji5 := shr_small hji5
  obtain rfl := Option.some.inj H
  go_enter Tryd.func66, Tryd.ntmps66
  go_wp2
  go_ret
  exact ⟨by first | rfl | (simp; done) | (simp only [← hji3, ← hji5] <;> (first | rfl | simp)) | (simp [*]; done), by repeat (first | exact Drawn0.refl _ | apply Drawn0.step)⟩
 rw [if_neg c4] at H
 exact absurd H (by simp)
def spec_l01Full.f (a0 : Int) : Option (Int) := (spec_l01One.f a0).bind fun t199 => (some (wrap64 (t199 - 1)))
set_option maxHeartbeats 8000000 in
set_option maxRecDepth 100000 in
theorem spec_l01Full.calls (a0 : Int) (r : Int) (w : World) (h : spec_l01Full.f a0 = some r) :
  Calls Tryd.prog 65 #[.int .i64 a0] w fun e w' => e = .returned (.int .i64 r) ∧ Drawn0 w w' := by
 have H := h
 unfold spec_l01Full.f at H
 clear h
 obtain ⟨t199, A2, H⟩ := zb H
 try dsimp only at H
 obtain rfl := Option.some.inj H
 go_enter Tryd.func65, Tryd.ntmps65
 go_wp2_with (first | (refine zO (some 4) Tryd.func54 #[.int .i64 a0] ?_; (with_reducible refine (spec_l01One.calls a0 t199 _ A2.out).mono ?_); rintro e w' ⟨rfl, ⟨nd, rfl⟩⟩; refine ⟨_, rfl, ?_⟩))
 go_ret
 exact ⟨zs, by repeat (first | exact Drawn0.refl _ | apply Drawn0.step)⟩
def spec_l01Masks.l0 : Nat → Int → List Int → Int → Option (Bool)
 | 0, _, _, _ => none
 | k + 1, x0, x1, x5 => if x5 < (x1.length : Int) then (if 0 ≤ x5 then ((spec_l01Full.f x0).bind fun t201 => ((spec_l01In.f (rd x1 x5) 0 t201).bind fun t202 => (if t202 = true then (spec_l01Masks.l0 k x0 x1 (wrap64 (x5 + 1))) else (some false)))) else (none)) else (some true)
def spec_l01Masks.f (k : Nat) (a0 : Int) (l1 : List Int) : Option (Bool) := spec_l01Masks.l0 k a0 l1 0
set_option maxHeartbeats 8000000 in
set_option maxRecDepth 100000 in
theorem spec_l01Masks.calls (k : Nat) (a0 : Int) (A1 : Option Addr) (c1 : Nat) (l1 : List Int) (r : Bool) (w : World) (hr1 : Kd.C (Kd.int .i64) w A1 l1.length l1) (hc1 : l1.length ≤ c1) (h : spec_l01Masks.f k a0 l1 = some r) :
  Calls Tryd.prog 127 #[.int .i64 a0, .slice A1 l1.length c1] w fun e w' => e = .returned (.bool r) ∧ Drawn0 w w' := by
 have HR1 := zA hr1
 have HC1 := zA hc1
 clear hr1 hc1
 have H := h
 unfold spec_l01Masks.f at H
 clear h
 have H' := zA H
 clear H
 go_enter Tryd.func127, Tryd.ntmps127
 go_wp2
 repeat (go_quiet (fail); try go_wp2)
 go_loopg [5] k (fun kq v5 w' => ∃ (x5_1 : Int), v5 = .int .i64 x5_1 ∧ Aside0 (spec_l01Masks.l0 kq a0 l1 x5_1 = some r) ∧ Aside0 (kq ≤ k) ∧ Drawn0 w w')
 case atStart => exact ⟨(0), zs, H', ⟨Nat.le_refl _⟩, by repeat (first | exact Drawn0.refl _ | apply Drawn0.step)⟩
 case round =>
  clear H'
  try clear c1
  obtain ⟨x5_1, rfl, HA, HK1, ⟨m1, rfl⟩⟩ := hrel
  cases gk with
  | zero => exact absurd HA.out (by simp [spec_l01Masks.l0])
  | succ k1 =>
   have H := HA.out
   clear HA
   simp only [spec_l01Masks.l0] at H
   by_cases c3 : x5_1 < (l1.length : Int)
   ·rw [if_pos c3] at H
    have c3b0 : decide (x5_1 < (l1.length : Int)) = true := decide_eq_true c3
    clear c3
    by_cases c4 : 0 ≤ x5_1
    ·rw [if_pos c4] at H
     have c4b0 : decide (0 ≤ x5_1) = true := decide_eq_true c4
     clear c4
     obtain ⟨t201, A5, H⟩ := zb H
     try dsimp only at H
     obtain ⟨t202, A6, H⟩ := zb H
     try dsimp only at H
     by_cases c7 : t202 = true
     ·subst c7
      rw [if_pos rfl] at H
      have H' := zA H
      clear H
      have p200 : 0 ≤ (x5_1 : Int) := zd
      have q200 : x5_1 < (l1.length : Int) := zd
      obtain ⟨ad200, e200, hx200_0⟩ := Kd.at_int HR1.out x5_1 p200 q200
      cases e200
      replace p200 := eq_true p200
      replace q200 := eq_true q200
      go_wp2_with (first | (go_at_call 65; (with_reducible refine (spec_l01Full.calls a0 t201 _ A5.out).mono ?_); rintro e w' ⟨rfl, ⟨nd, rfl⟩⟩; (try exact zw)) | (go_at_call 64; (with_reducible refine (spec_l01In.calls (rd l1 x5_1) 0 t201 true _ A6.out).mono ?_); rintro e w' ⟨rfl, ⟨nd, rfl⟩⟩; (try exact zw)))
      repeat (go_quiet (first | (go_at_call 65; (with_reducible refine (spec_l01Full.calls a0 t201 _ A5.out).mono ?_); rintro e w' ⟨rfl, ⟨nd, rfl⟩⟩; (try exact zw)) | (go_at_call 64; (with_reducible refine (spec_l01In.calls (rd l1 x5_1) 0 t201 true _ A6.out).mono ?_); rintro e w' ⟨rfl, ⟨nd, rfl⟩⟩; (try exact zw))); try go_wp2_with (first | (go_at_call 65; (with_reducible refine (spec_l01Full.calls a0 t201 _ A5.out).mono ?_); rintro e w' ⟨rfl, ⟨nd, rfl⟩⟩; (try exact zw)) | (go_at_call 64; (with_reducible refine (spec_l01In.calls (rd l1 x5_1) 0 t201 true _ A6.out).mono ?_); rintro e w' ⟨rfl, ⟨nd, rfl⟩⟩; (try exact zw))))
      go_roundg k1
      case measure => have := HK1.out; omega
      case rel => exact ⟨(wrap64 (x5_1 + 1)), zs, H', ⟨by have := HK1.out; omega⟩, by repeat (first | exact Drawn0.refl _ | apply Drawn0.step)⟩
     replace c7 := Bool.eq_false_iff.mpr c7
     subst c7
     rw [if_neg (show ¬ (false = true) by decide)] at H
     obtain rfl := Option.some.inj H
     have p200 : 0 ≤ (x5_1 : Int) := zd
     have q200 : x5_1 < (l1.length : Int) := zd
     obtain ⟨ad200, e200, hx200_0⟩ := Kd.at_int HR1.out x5_1 p200 q200
     cases e200
     replace p200 := eq_true p200
     replace q200 := eq_true q200
     go_wp2_with (first | (go_at_call 65; (with_reducible refine (spec_l01Full.calls a0 t201 _ A5.out).mono ?_); rintro e w' ⟨rfl, ⟨nd, rfl⟩⟩; (try exact zw)) | (go_at_call 64; (with_reducible refine (spec_l01In.calls (rd l1 x5_1) 0 t201 false _ A6.out).mono ?_); rintro e w' ⟨rfl, ⟨nd, rfl⟩⟩; (try exact zw)))
     repeat (go_quiet (first | (go_at_call 65; (with_reducible refine (spec_l01Full.calls a0 t201 _ A5.out).mono ?_); rintro e w' ⟨rfl, ⟨nd, rfl⟩⟩; (try exact zw)) | (go_at_call 64; (with_reducible refine (spec_l01In.calls (rd l1 x5_1) 0 t201 false _ A6.out).mono ?_); rintro e w' ⟨rfl, ⟨nd, rfl⟩⟩; (try exact zw))); try go_wp2_with (first | (go_at_call 65; (with_reducible refine (spec_l01Full.calls a0 t201 _ A5.out).mono ?_); rintro e w' ⟨rfl, ⟨nd, rfl⟩⟩; (try exact zw)) | (go_at_call 64; (with_reducible refine (spec_l01In.calls (rd l1 x5_1) 0 t201 false _ A6.out).mono ?_); rintro e w' ⟨rfl, ⟨nd, rfl⟩⟩; (try exact zw))))
     go_ret
     exact ⟨zs, by repeat (first | exact Drawn0.refl _ | apply Drawn0.step)⟩
    rw [if_neg c4] at H
    exact absurd H (by simp)
   rw [if_neg c3] at H
   have c3b0 : decide (x5_1 < (l1.length : Int)) = false := decide_eq_false c3
   clear c3
   obtain rfl := Option.some.inj H
   go_wp2
   repeat (go_quiet (fail); try go_wp2)
   go_ret
   exact ⟨zs, by repeat (first | exact Drawn0.refl _ | apply Drawn0.step)⟩
mutual
def spec_l02Is.j0 : Nat → Bool → Int → List Int → Option (Bool)
 | 0, _, _, _ => none
 | k + 1, x24, x204000, x204001 => if x24 = true then (some false) else (spec_l02Is.l0 k 0 x204000 x204001)
def spec_l02Is.l0 : Nat → Int → Int → List Int → Option (Bool)
 | 0, _, _, _ => none
 | k + 1, x3, x204000, x204001 => if x3 < x204000 then (if 0 ≤ x3 then (if x3 < (x204001.length : Int) then ((spec_l01Bit.f (rd x204001 x3) x3).bind fun t207 => (if t207 = true then (spec_l02Is.l1 k x3 0 x204000 x204001) else (some false))) else (none)) else (none)) else (some true)
def spec_l02Is.l1 : Nat → Int → Int → Int → List Int → Option (Bool)
 | 0, _, _, _, _ => none
 | k + 1, x3, x4, x204000, x204001 => if x4 < x204000 then (if 0 ≤ x3 then (if x3 < (x204001.length : Int) then ((spec_l01Bit.f (rd x204001 x3) x4).bind fun t209 => (if 0 ≤ x4 then (if x4 < (x204001.length : Int) then ((spec_l01Bit.f (rd x204001 x4) x3).bind fun t211 => (if (t209 != t211) = true then (some false) else (spec_l02Is.l1 k x3 (wrap64 (x4 + 1)) x204000 x204001))) else (none)) else (none))) else (none)) else (none)) else (spec_l02Is.l0 k (wrap64 (x3 + 1)) x204000 x204001)
end
def spec_l02Is.f (k : Nat) (a0_0 : Int) (l0_1 : List Int) : Option (Bool) := (spec_l01In.f a0_0 0 8).bind fun t204 => (if t204 = true then (if (l0_1.length : Int) = a0_0 then ((spec_l01Masks.f k a0_0 l0_1).bind fun t205 => (spec_l02Is.j0 k (!t205) a0_0 l0_1)) else (spec_l02Is.j0 k true a0_0 l0_1)) else (spec_l02Is.j0 k true a0_0 l0_1))
set_option maxHeartbeats 8000000 in
set_option maxRecDepth 100000 in
theorem spec_l02Is.calls (k : Nat) (a0_0 : Int) (A0_1 : Option Addr) (c0_1 : Nat) (l0_1 : List Int) (r : Bool) (w : World) (hr0_1 : Kd.C (Kd.int .i64) w A0_1 l0_1.length l0_1) (hc0_1 : l0_1.length ≤ c0_1) (h : spec_l02Is.f k a0_0 l0_1 = some r) :
  Calls Tryd.prog 106 #[.agg #[.int .i64 a0_0, .slice A0_1 l0_1.length c0_1]] w fun e w' => e = .returned (.bool r) ∧ Below w.heap.size w w' := by
 have hu26 := Tryd.underlying26
 have HR0_1 := zA hr0_1
 have HC0_1 := zA hc0_1
 clear hr0_1 hc0_1
 have HB := zA (kW w.heap.size w)
 have H := h
 unfold spec_l02Is.f at H
 clear h
 have HC2 := zA H
 clear H
 go_enter Tryd.func106, Tryd.ntmps106
 go_upto_region 1 with (first | (refine zBE 1 #[.int .i64 a0_0, .slice A0_1 l0_1.length c0_1] 26 ?_; intro gb203 hg w3 hbox hb; have BK203 := zA (hbox); have GW203 := zA (zBH hg HB.out); have GE203 := zA (zBH hg HB.out); replace HB := zA (kQ (zQ HB.out) hb); clear hb hbox hg))
 repeat (go_quiet (first | (refine zBE 1 #[.int .i64 a0_0, .slice A0_1 l0_1.length c0_1] 26 ?_; intro gb203 hg w3 hbox hb; have n0_ := zA (kQ (zQ HB.out) hb); have n1_ := zA (hbox); have n2_ := zA (zBH hg HB.out); have n3_ := zA (zBH hg HB.out); clear HB; have HB := n0_; have BK203 := n1_; have GW203 := n2_; have GE203 := n3_; clear n0_ n1_ n2_ n3_; clear hb hbox hg)); go_upto_region 1 with (first | (refine zBE 1 #[.int .i64 a0_0, .slice A0_1 l0_1.length c0_1] 26 ?_; intro gb203 hg w3 hbox hb; have BK203 := zA (hbox); have GW203 := zA (zBH hg HB.out); have GE203 := zA (zBH hg HB.out); replace HB := zA (kQ (zQ HB.out) hb); clear hb hbox hg)))
 (try simp only [Act.put, zL, zM, zN])
 go_cut [24] (fun v24 wc => ∃ (kq : Nat) (x24_1 : Bool), v24 = .bool x24_1 ∧ Aside0 (spec_l02Is.j0 kq x24_1 a0_0 l0_1 = some r) ∧ Aside0 (kq ≤ k) ∧ Aside0 (wc.heap[gb203]? = some (.cells #[.int .i64 a0_0, (.slice A0_1 l0_1.length c0_1)] 26 (0, 0))) ∧ Aside0 (Below w.heap.size w wc))
 case first =>
  have H := HC2.out
  clear HC2
  obtain ⟨t204, A4, H⟩ := zb H
  try dsimp only at H
  by_cases c5 : t204 = true
  ·subst c5
   rw [if_pos rfl] at H
   by_cases c6 : (l0_1.length : Int) = a0_0
   ·rw [if_pos c6] at H
    obtain ⟨c6b0, c6b1⟩ := zT1 c6
    clear c6
    (first | rw [c6b0] | (simp only [i64_w, i32_w]; rw [c6b0]) | skip)
    obtain ⟨t205, A7, H⟩ := zb H
    try dsimp only at H
    have H' := zA H
    clear H
    obtain ⟨hcz8_0, hcz8_1, hfz8_0, hfz8_1⟩ := zB3 BK203.out
    go_wp2_with (first | (go_at_call 64; (with_reducible refine (spec_l01In.calls a0_0 0 8 true _ A4.out).mono ?_); rintro e w' ⟨rfl, ⟨nd, rfl⟩⟩; (try exact zw)) | (go_at_call 127; (with_reducible refine (spec_l01Masks.calls k a0_0 _ _ l0_1 t205 _ ?side1 ?side2 A7.out).mono ?_); (case side1 => exact zS (kO HR0_1.out (zT HB.out GE203.out))); (case side2 => exact HC0_1.out); rintro e w' ⟨rfl, ⟨nd, rfl⟩⟩; (try exact zw)))
    repeat (go_quiet (first | (go_at_call 64; (with_reducible refine (spec_l01In.calls a0_0 0 8 true _ A4.out).mono ?_); rintro e w' ⟨rfl, ⟨nd, rfl⟩⟩; (try exact zw)) | (go_at_call 127; (with_reducible refine (spec_l01Masks.calls k a0_0 _ _ l0_1 t205 _ ?side1 ?side2 A7.out).mono ?_); (case side1 => exact zS (kO HR0_1.out (zT HB.out GE203.out))); (case side2 => exact HC0_1.out); rintro e w' ⟨rfl, ⟨nd, rfl⟩⟩; (try exact zw))); try go_wp2_with (first | (go_at_call 64; (with_reducible refine (spec_l01In.calls a0_0 0 8 true _ A4.out).mono ?_); rintro e w' ⟨rfl, ⟨nd, rfl⟩⟩; (try exact zw)) | (go_at_call 127; (with_reducible refine (spec_l01Masks.calls k a0_0 _ _ l0_1 t205 _ ?side1 ?side2 A7.out).mono ?_); (case side1 => exact zS (kO HR0_1.out (zT HB.out GE203.out))); (case side2 => exact HC0_1.out); rintro e w' ⟨rfl, ⟨nd, rfl⟩⟩; (try exact zw))))
    go_meet
    case rel => exact ⟨_, (!t205), zs, H', ⟨by first | omega | exact Nat.le_refl _⟩, ⟨zR BK203.out⟩, ⟨zT HB.out GE203.out⟩⟩
   rw [if_neg c6] at H
   obtain ⟨c6b0, c6b1⟩ := zT2 c6
   (first | rw [c6b0] | (simp only [i64_w, i32_w]; rw [c6b0]) | skip)
   have H' := zA H
   clear H
   obtain ⟨hcz9_0, hcz9_1, hfz9_0, hfz9_1⟩ := zB3 BK203.out
   go_wp2_with (first | (go_at_call 64; (with_reducible refine (spec_l01In.calls a0_0 0 8 true _ A4.out).mono ?_); rintro e w' ⟨rfl, ⟨nd, rfl⟩⟩; (try exact zw)))
   repeat (go_quiet (first | (go_at_call 64; (with_reducible refine (spec_l01In.calls a0_0 0 8 true _ A4.out).mono ?_); rintro e w' ⟨rfl, ⟨nd, rfl⟩⟩; (try exact zw))); try go_wp2_with (first | (go_at_call 64; (with_reducible refine (spec_l01In.calls a0_0 0 8 true _ A4.out).mono ?_); rintro e w' ⟨rfl, ⟨nd, rfl⟩⟩; (try exact zw))))
   go_meet
   case rel => exact ⟨_, (true), zs, H', ⟨by first | omega | exact Nat.le_refl _⟩, ⟨zR BK203.out⟩, ⟨zT HB.out GE203.out⟩⟩
  replace c5 := Bool.eq_false_iff.mpr c5
  subst c5
  rw [if_neg (show ¬ (false = true) by decide)] at H
  have H' := zA H
  clear H
  obtain ⟨hcz10_0, hcz10_1, hfz10_0, hfz10_1⟩ := zB3 BK203.out
  go_wp2_with (first | (go_at_call 64; (with_reducible refine (spec_l01In.calls a0_0 0 8 false _ A4.out).mono ?_); rintro e w' ⟨rfl, ⟨nd, rfl⟩⟩; (try exact zw)))
  repeat (go_quiet (first | (go_at_call 64; (with_reducible refine (spec_l01In.calls a0_0 0 8 false _ A4.out).mono ?_); rintro e w' ⟨rfl, ⟨nd, rfl⟩⟩; (try exact zw))); try go_wp2_with (first | (go_at_call 64; (with_reducible refine (spec_l01In.calls a0_0 0 8 false _ A4.out).mono ?_); rintro e w' ⟨rfl, ⟨nd, rfl⟩⟩; (try exact zw))))
  go_meet
  case rel => exact ⟨_, (true), zs, H', ⟨by first | omega | exact Nat.le_refl _⟩, ⟨zR BK203.out⟩, ⟨zT HB.out GE203.out⟩⟩
 case rest =>
  clear HC2
  try clear c1
  try clear c5
  try clear c6
  try clear c10
  try clear hcz10_0
  try clear hcz10_1
  try clear hcz8_0
  try clear hcz8_1
  try clear hcz9_0
  try clear hcz9_1
  try clear hfz10_0
  try clear hfz10_1
  try clear hfz8_0
  try clear hfz8_1
  try clear hfz9_0
  try clear hfz9_1
  obtain ⟨kq, x24_1, rfl, HA, HJ1, BK203, HB⟩ := hcut
  cases kq with
  | zero => exact absurd HA.out (by simp [spec_l02Is.j0])
  | succ kj1 =>
   have H := HA.out
   clear HA
   simp only [spec_l02Is.j0] at H
   by_cases c11 : x24_1 = true
   ·subst c11
    rw [if_pos rfl] at H
    obtain rfl := Option.some.inj H
    go_wp2
    repeat (go_quiet (fail); try go_wp2)
    go_ret
    exact ⟨zr, zT HB.out GE203.out⟩
   replace c11 := Bool.eq_false_iff.mpr c11
   subst c11
   rw [if_neg (show ¬ (false = true) by decide)] at H
   have H' := zA H
   clear H
   go_wp2
   repeat (go_quiet (fail); try go_wp2)
   go_loopg [3] kj1 (fun kq v3 w' => ∃ (x3_2 : Int), v3 = .int .i64 x3_2 ∧ Aside0 (spec_l02Is.l0 kq x3_2 a0_0 l0_1 = some r) ∧ Aside0 (kq ≤ kj1) ∧ Aside0 (w'.heap[gb203]? = some (.cells #[.int .i64 a0_0, (.slice A0_1 l0_1.length c0_1)] 26 (0, 0))) ∧ Aside0 (Below w.heap.size w w'))
   case atStart => exact ⟨(0), zs, H', ⟨Nat.le_refl _⟩, ⟨zR BK203.out⟩, ⟨zT HB.out GE203.out⟩⟩
   case round =>
    clear H'
    try clear c1
    try clear c5
    try clear c6
    try clear c10
    try clear c11
    try clear hcz10_0
    try clear hcz10_1
    try clear hcz8_0
    try clear hcz8_1
    try clear hcz9_0
    try clear hcz9_1
    try clear hfz10_0
    try clear hfz10_1
    try clear hfz8_0
    try clear hfz8_1
    try clear hfz9_0
    try clear hfz9_1
    obtain ⟨x3_2, rfl, HA, HK2, BK203, HB⟩ := hrel
    cases gk with
    | zero => exact absurd HA.out (by simp [spec_l02Is.l0])
    | succ k2 =>
     have H := HA.out
     clear HA
     simp only [spec_l02Is.l0] at H
     by_cases c12 : x3_2 < a0_0
     ·rw [if_pos c12] at H
      have c12b0 : decide (x3_2 < a0_0) = true := decide_eq_true c12
      clear c12
      by_cases c13 : 0 ≤ x3_2
      ·rw [if_pos c13] at H
       have c13b0 : decide (0 ≤ x3_2) = true := decide_eq_true c13
       clear c13
       by_cases c14 : x3_2 < (l0_1.length : Int)
       ·rw [if_pos c14] at H
        have c14b0 : decide (x3_2 < (l0_1.length : Int)) = true := decide_eq_true c14
        clear c14
        obtain ⟨t207, A15, H⟩ := zb H
        try dsimp only at H
        by_cases c16 : t207 = true
        ·subst c16
         rw [if_pos rfl] at H
         have H' := zA H
         clear H
         obtain ⟨hcz17_0, hcz17_1, hfz17_0, hfz17_1⟩ := zB3 BK203.out
         have p206 : 0 ≤ (x3_2 : Int) := zd
         have q206 : x3_2 < (l0_1.length : Int) := zd
         obtain ⟨ad206, e206, hx206_0⟩ := Kd.at_int HR0_1.out x3_2 p206 q206
         cases e206
         replace hx206_0 := (HB.out.cell (jG w _ hx206_0)).trans hx206_0
         replace p206 := eq_true p206
         replace q206 := eq_true q206
         go_wp2_with (first | (go_at_call 66; (with_reducible refine (spec_l01Bit.calls (rd l0_1 x3_2) x3_2 true _ A15.out).mono ?_); rintro e w' ⟨rfl, ⟨nd, rfl⟩⟩; (try exact zw)))
         repeat (go_quiet (first | (go_at_call 66; (with_reducible refine (spec_l01Bit.calls (rd l0_1 x3_2) x3_2 true _ A15.out).mono ?_); rintro e w' ⟨rfl, ⟨nd, rfl⟩⟩; (try exact zw))); try go_wp2_with (first | (go_at_call 66; (with_reducible refine (spec_l01Bit.calls (rd l0_1 x3_2) x3_2 true _ A15.out).mono ?_); rintro e w' ⟨rfl, ⟨nd, rfl⟩⟩; (try exact zw))))
         go_loopg [4] k2 (fun kq v4 w' => ∃ (x4_3 : Int), v4 = .int .i64 x4_3 ∧ Aside0 (spec_l02Is.l1 kq x3_2 x4_3 a0_0 l0_1 = some r) ∧ Aside0 (kq ≤ k2) ∧ Aside0 (w'.heap[gb203]? = some (.cells #[.int .i64 a0_0, (.slice (some ad206) l0_1.length c0_1)] 26 (0, 0))) ∧ Aside0 (Below w.heap.size w w'))
         case atStart => exact ⟨(0), zs, H', ⟨Nat.le_refl _⟩, ⟨zR BK203.out⟩, ⟨zT HB.out GE203.out⟩⟩
         case round =>
          clear H'
          try clear c1
          try clear hx2
          try clear c5
          try clear c6
          try clear c10
          try clear c11
          try clear c12
          try clear c13
          try clear c14
          try clear c16
          try clear hcz10_0
          try clear hcz10_1
          try clear hcz17_0
          try clear hcz17_1
          try clear hcz8_0
          try clear hcz8_1
          try clear hcz9_0
          try clear hcz9_1
          try clear hfz10_0
          try clear hfz10_1
          try clear hfz17_0
          try clear hfz17_1
          try clear hfz8_0
          try clear hfz8_1
          try clear hfz9_0
          try clear hfz9_1
          try clear hx206_0
          obtain ⟨x4_3, rfl, HA, HK3, BK203, HB⟩ := hrel
          cases gk with
          | zero => exact absurd HA.out (by simp [spec_l02Is.l1])
          | succ k3 =>
           have H := HA.out
           clear HA
           simp only [spec_l02Is.l1] at H
           by_cases c18 : x4_3 < a0_0
           ·rw [if_pos c18] at H
            have c18b0 : decide (x4_3 < a0_0) = true := decide_eq_true c18
            clear c18
            by_cases c19 : 0 ≤ x3_2
            ·rw [if_pos c19] at H
             have c19b0 : decide (0 ≤ x3_2) = true := decide_eq_true c19
             clear c19
             by_cases c20 : x3_2 < (l0_1.length : Int)
             ·rw [if_pos c20] at H
              have c20b0 : decide (x3_2 < (l0_1.length : Int)) = true := decide_eq_true c20
              clear c20
              obtain ⟨t209, A21, H⟩ := zb H
              try dsimp only at H
              by_cases c22 : 0 ≤ x4_3
              ·rw [if_pos c22] at H
               have c22b0 : decide (0 ≤ x4_3) = true := decide_eq_true c22
               clear c22
               by_cases c23 : x4_3 < (l0_1.length : Int)
               ·rw [if_pos c23] at H
                have c23b0 : decide (x4_3 < (l0_1.length : Int)) = true := decide_eq_true c23
                clear c23
                obtain ⟨t211, A24, H⟩ := zb H
                try dsimp only at H
                by_cases c25 : (t209 != t211) = true
                ·rw [if_pos c25] at H
                 have c25b0 : (t209 != t211) = true := c25
                 (try (have c25b1 : decide (t209 = t211) = false := by simpa using c25))
                 (try (have c25b2 : (t209 == t211) = false := by simpa using c25))
                 (try (have c25b3 : ¬ (t209 = t211) := by simpa using c25))
                 clear c25
                 obtain rfl := Option.some.inj H
                 obtain ⟨hcz26_0, hcz26_1, hfz26_0, hfz26_1⟩ := zB3 BK203.out
                 have p208 : 0 ≤ (x3_2 : Int) := zd
                 have q208 : x3_2 < (l0_1.length : Int) := zd
                 obtain ⟨ad208, e208, hx208_0⟩ := Kd.at_int HR0_1.out x3_2 p208 q208
                 obtain rfl : ad206 = ad208 := (by injection e208)
                 replace hx208_0 := (HB.out.cell (jG w _ hx208_0)).trans hx208_0
                 replace p208 := eq_true p208
                 replace q208 := eq_true q208
                 go_wp2_with (first | (go_at_call 66; (with_reducible refine (spec_l01Bit.calls (rd l0_1 x3_2) x4_3 t209 _ A21.out).mono ?_); rintro e w' ⟨rfl, ⟨nd, rfl⟩⟩; (try exact zw); have p210 : 0 ≤ (x4_3 : Int) := zd; have q210 : x4_3 < (l0_1.length : Int) := zd; obtain ⟨ad210, e210, hx210_0⟩ := Kd.at_int HR0_1.out x4_3 p210 q210; obtain rfl : ad206 = ad210 := (by injection e210); replace hx210_0 := (HB.out.cell (jG w _ hx210_0)).trans hx210_0; replace p210 := eq_true p210; replace q210 := eq_true q210) | (go_at_call 66; (with_reducible refine (spec_l01Bit.calls (rd l0_1 x4_3) x3_2 t211 _ A24.out).mono ?_); rintro e w' ⟨rfl, ⟨nd, rfl⟩⟩; (try exact zw)))
                 repeat (go_quiet (first | (go_at_call 66; (with_reducible refine (spec_l01Bit.calls (rd l0_1 x3_2) x4_3 t209 _ A21.out).mono ?_); rintro e w' ⟨rfl, ⟨nd, rfl⟩⟩; (try exact zw); have p210 : 0 ≤ (x4_3 : Int) := zd; have q210 : x4_3 < (l0_1.length : Int) := zd; obtain ⟨ad210, e210, hx210_0⟩ := Kd.at_int HR0_1.out x4_3 p210 q210; obtain rfl : ad206 = ad210 := (by injection e210); replace hx210_0 := (HB.out.cell (jG w _ hx210_0)).trans hx210_0; replace p210 := eq_true p210; replace q210 := eq_true q210) | (go_at_call 66; (with_reducible refine (spec_l01Bit.calls (rd l0_1 x4_3) x3_2 t211 _ A24.out).mono ?_); rintro e w' ⟨rfl, ⟨nd, rfl⟩⟩; (try exact zw))); try go_wp2_with (first | (go_at_call 66; (with_reducible refine (spec_l01Bit.calls (rd l0_1 x3_2) x4_3 t209 _ A21.out).mono ?_); rintro e w' ⟨rfl, ⟨nd, rfl⟩⟩; (try exact zw); have p210 : 0 ≤ (x4_3 : Int) := zd; have q210 : x4_3 < (l0_1.length : Int) := zd; obtain ⟨ad210, e210, hx210_0⟩ := Kd.at_int HR0_1.out x4_3 p210 q210; obtain rfl : ad206 = ad210 := (by injection e210); replace hx210_0 := (HB.out.cell (jG w _ hx210_0)).trans hx210_0; replace p210 := eq_true p210; replace q210 := eq_true q210) | (go_at_call 66; (with_reducible refine (spec_l01Bit.calls (rd l0_1 x4_3) x3_2 t211 _ A24.out).mono ?_); rintro e w' ⟨rfl, ⟨nd, rfl⟩⟩; (try exact zw))))
                 go_ret
                 exact ⟨zr, zT HB.out GE203.out⟩
                rw [if_neg c25] at H
                have c25b0 : (t209 != t211) = false := by simpa using c25
                (try (have c25b1 : decide (t209 = t211) = true := by simpa using c25))
                (try (have c25b2 : (t209 == t211) = true := by simpa using c25))
                clear c25
                have H' := zA H
                clear H
                obtain ⟨hcz27_0, hcz27_1, hfz27_0, hfz27_1⟩ := zB3 BK203.out
                have p208 : 0 ≤ (x3_2 : Int) := zd
                have q208 : x3_2 < (l0_1.length : Int) := zd
                obtain ⟨ad208, e208, hx208_0⟩ := Kd.at_int HR0_1.out x3_2 p208 q208
                obtain rfl : ad206 = ad208 := (by injection e208)
                replace hx208_0 := (HB.out.cell (jG w _ hx208_0)).trans hx208_0
                replace p208 := eq_true p208
                replace q208 := eq_true q208
                go_wp2_with (first | (go_at_call 66; (with_reducible refine (spec_l01Bit.calls (rd l0_1 x3_2) x4_3 t209 _ A21.out).mono ?_); rintro e w' ⟨rfl, ⟨nd, rfl⟩⟩; (try exact zw); have p210 : 0 ≤ (x4_3 : Int) := zd; have q210 : x4_3 < (l0_1.length : Int) := zd; obtain ⟨ad210, e210, hx210_0⟩ := Kd.at_int HR0_1.out x4_3 p210 q210; obtain rfl : ad206 = ad210 := (by injection e210); replace hx210_0 := (HB.out.cell (jG w _ hx210_0)).trans hx210_0; replace p210 := eq_true p210; replace q210 := eq_true q210) | (go_at_call 66; (with_reducible refine (spec_l01Bit.calls (rd l0_1 x4_3) x3_2 t211 _ A24.out).mono ?_); rintro e w' ⟨rfl, ⟨nd, rfl⟩⟩; (try exact zw)))
                repeat (go_quiet (first | (go_at_call 66; (with_reducible refine (spec_l01Bit.calls (rd l0_1 x3_2) x4_3 t209 _ A21.out).mono ?_); rintro e w' ⟨rfl, ⟨nd, rfl⟩⟩; (try exact zw); have p210 : 0 ≤ (x4_3 : Int) := zd; have q210 : x4_3 < (l0_1.length : Int) := zd; obtain ⟨ad210, e210, hx210_0⟩ := Kd.at_int HR0_1.out x4_3 p210 q210; obtain rfl : ad206 = ad210 := (by injection e210); replace hx210_0 := (HB.out.cell (jG w _ hx210_0)).trans hx210_0; replace p210 := eq_true p210; replace q210 := eq_true q210) | (go_at_call 66; (with_reducible refine (spec_l01Bit.calls (rd l0_1 x4_3) x3_2 t211 _ A24.out).mono ?_); rintro e w' ⟨rfl, ⟨nd, rfl⟩⟩; (try exact zw))); try go_wp2_with (first | (go_at_call 66; (with_reducible refine (spec_l01Bit.calls (rd l0_1 x3_2) x4_3 t209 _ A21.out).mono ?_); rintro e w' ⟨rfl, ⟨nd, rfl⟩⟩; (try exact zw); have p210 : 0 ≤ (x4_3 : Int) := zd; have q210 : x4_3 < (l0_1.length : Int) := zd; obtain ⟨ad210, e210, hx210_0⟩ := Kd.at_int HR0_1.out x4_3 p210 q210; obtain rfl : ad206 = ad210 := (by injection e210); replace hx210_0 := (HB.out.cell (jG w _ hx210_0)).trans hx210_0; replace p210 := eq_true p210; replace q210 := eq_true q210) | (go_at_call 66; (with_reducible refine (spec_l01Bit.calls (rd l0_1 x4_3) x3_2 t211 _ A24.out).mono ?_); rintro e w' ⟨rfl, ⟨nd, rfl⟩⟩; (try exact zw))))
                go_roundg k3
                case measure => have := HJ1.out; have := HK2.out; have := HK3.out; omega
                case rel => exact ⟨(wrap64 (x4_3 + 1)), zs, H', ⟨by have := HJ1.out; have := HK2.out; have := HK3.out; omega⟩, ⟨zR BK203.out⟩, ⟨zT HB.out GE203.out⟩⟩
               rw [if_neg c23] at H
               exact absurd H (by simp)
              rw [if_neg c22] at H
              exact absurd H (by simp)
             rw [if_neg c20] at H
             exact absurd H (by simp)
            rw [if_neg c19] at H
            exact absurd H (by simp)
           rw [if_neg c18] at H
           have c18b0 : decide (x4_3 < a0_0) = false := decide_eq_false c18
           clear c18
           have H' := zA H
           clear H
           obtain ⟨hcz28_0, hcz28_1, hfz28_0, hfz28_1⟩ := zB3 BK203.out
           go_wp2
           repeat (go_quiet (fail); try go_wp2)
           go_roundg k3
           case measure => have := HJ1.out; have := HK2.out; have := HK3.out; omega
           case rel => exact ⟨(wrap64 (x3_2 + 1)), zs, H', ⟨by have := HJ1.out; have := HK2.out; have := HK3.out; omega⟩, ⟨zR BK203.out⟩, ⟨zT HB.out GE203.out⟩⟩
        replace c16 := Bool.eq_false_iff.mpr c16
        subst c16
        rw [if_neg (show ¬ (false = true) by decide)] at H
        obtain rfl := Option.some.inj H
        obtain ⟨hcz29_0, hcz29_1, hfz29_0, hfz29_1⟩ := zB3 BK203.out
        have p206 : 0 ≤ (x3_2 : Int) := zd
        have q206 : x3_2 < (l0_1.length : Int) := zd
        obtain ⟨ad206, e206, hx206_0⟩ := Kd.at_int HR0_1.out x3_2 p206 q206
        cases e206
        replace hx206_0 := (HB.out.cell (jG w _ hx206_0)).trans hx206_0
        replace p206 := eq_true p206
        replace q206 := eq_true q206
        go_wp2_with (first | (go_at_call 66; (with_reducible refine (spec_l01Bit.calls (rd l0_1 x3_2) x3_2 false _ A15.out).mono ?_); rintro e w' ⟨rfl, ⟨nd, rfl⟩⟩; (try exact zw)))
        repeat (go_quiet (first | (go_at_call 66; (with_reducible refine (spec_l01Bit.calls (rd l0_1 x3_2) x3_2 false _ A15.out).mono ?_); rintro e w' ⟨rfl, ⟨nd, rfl⟩⟩; (try exact zw))); try go_wp2_with (first | (go_at_call 66; (with_reducible refine (spec_l01Bit.calls (rd l0_1 x3_2) x3_2 false _ A15.out).mono ?_); rintro e w' ⟨rfl, ⟨nd, rfl⟩⟩; (try exact zw))))
        go_ret
        exact ⟨zr, zT HB.out GE203.out⟩
       rw [if_neg c14] at H
       exact absurd H (by simp)
      rw [if_neg c13] at H
      exact absurd H (by simp)
     rw [if_neg c12] at H
     have c12b0 : decide (x3_2 < a0_0) = false := decide_eq_false c12
     clear c12
     obtain rfl := Option.some.inj H
     obtain ⟨hcz30_0, hcz30_1, hfz30_0, hfz30_1⟩ := zB3 BK203.out
     go_wp2
     repeat (go_quiet (fail); try go_wp2)
     go_ret
     exact ⟨zr, zT HB.out GE203.out⟩
end Go.Proofs.YtkiacoilecdepaaDoor.PAll
