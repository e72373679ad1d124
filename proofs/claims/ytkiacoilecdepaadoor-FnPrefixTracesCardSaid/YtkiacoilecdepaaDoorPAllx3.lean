-- Printed by a program of the session (wip/tools/pgen.py) out of the translation. Not trusted: Lean checks it.
import Derived.Test.YtkiacoilecdepaaDoorPAllx0
import Derived.Test.YtkiacoilecdepaaDoorPAllx1
import Derived.Test.YtkiacoilecdepaaDoorPAllx2
namespace Go.Proofs.YtkiacoilecdepaaDoor.PAll
open Go.RowKit Go.Proofs.YtkiacoilecdepaaDoor.T Go.Proofs.YtkiacoilecdepaaDoorW.PrintWords Go.Proofs.YtkiacoilecdepaaDoorW.PrintLast Go.Proofs.YtkiacoilecdepaaDoorW.PrintMore
attribute [local go_sem] max2_int min2_int max_two min_two max_three min_three max_four min_four   -- for this text's walks alone
set_option linter.unusedVariables false
set_option linter.unusedSimpArgs false

/-! ### spec_l02Spoil: function 98 -/
def spec_l02Spoil.f (k : Nat) (s0_0 : List Int) (s0_1 : Int) (s0_2 : Int) (a1 : Int) : Option (Int × List Int × Int × Int) := (spec_l02Draw.f k s0_0 s0_1 s0_2 a1).bind fun bt231 => ((spec_l01Next.f s0_0 bt231.2.2.1 bt231.2.2.2 14).bind fun bt238 => (if bt238.1 > 0 then (some (bt231.1, bt231.2.1, bt238.2.1, bt238.2.2)) else ((spec_l01Next.f s0_0 bt238.2.1 bt238.2.2 4).bind fun bt241 => (if bt241.1 = 0 then ((spec_l01Pick.f s0_0 bt241.2.1 bt241.2.2 (([(-1), 9, wrap64 (bt231.1 + 1)] : List Int))).bind fun bt247 => (some (bt247.1, bt231.2.1, bt247.2.1, bt247.2.2))) else (if bt241.1 = 1 then ((spec_l01Pick.f s0_0 bt241.2.1 bt241.2.2 (([0, 1, 255] : List Int))).bind fun bt253 => (if bt231.2.1.length < 17592186044416 then (some (bt231.1, (bt231.2.1 ++ [bt253.1]), bt253.2.1, bt253.2.2)) else (none))) else (if bt231.1 > 0 then ((spec_l01Next.f s0_0 bt241.2.1 bt241.2.2 bt231.1).bind fun bt259 => (if 0 ≤ bt259.1 then (if bt259.1 < (bt231.2.1.length : Int) then ((spec_l01One.f bt259.1).bind fun t263 => ((spec_l01One.f bt231.1).bind fun t265 => ((spec_l01One.f bt231.1).bind fun t266 => ((spec_l01Next.f s0_0 bt259.2.1 bt259.2.2 t266).bind fun bt267 => ((spec_l01Pick.f s0_0 bt267.2.1 bt267.2.2 (([wrap64 ((rd bt231.2.1 bt259.1) - t263), Go.bits .or .i64 (rd bt231.2.1 bt259.1) t265, bt267.1, (-1)] : List Int))).bind fun bt273 => (some (bt231.1, (bt231.2.1.set (bt259.1 : Int).toNat bt273.1), bt273.2.1, bt273.2.2))))))) else (none)) else (none))) else (some (bt231.1, bt231.2.1, bt241.2.1, bt241.2.2))))))))

def spec_l02Spoil.T7 : Bool × List (List Nat × List Nat) := (true, [([], []), ([0], [0]), ([], []), ([], []), ([], []), ([4], [4]), ([], []), ([5, 6], [5, 6]), ([7], [7]), ([], []), ([9], [9]), ([8, 10], [8, 10]), ([], []), ([12], [12]), ([], []), ([13, 14], [13, 14]), ([15], [15]), ([], []), ([17], [17]), ([18, 10], [18]), ([16, 19], [16, 19]), ([], []), ([], []), ([22], [22]), ([23, 19], [23]), ([21, 24, 24], [21, 24]), ([11, 20, 25], [11, 20, 25]), ([3, 26, 25], [3, 26]), ([1, 2, 0, 1, 2, 3, 4, 5, 6, 7, 8, 9, 10, 11, 12, 13, 14, 15, 16, 17, 18, 19, 20, 21, 22, 23, 24, 25, 26, 27], [1, 2]), ([28, 27, 27, 0, 1, 2, 3, 4, 5, 6, 7, 8, 9, 10, 11, 12, 13, 14, 15, 16, 17, 18, 19, 20, 21, 22, 23, 24, 25, 26, 27], [27, 28])])
def spec_l02Spoil.B7 : List Nat := [0, 1, 0, 0, 0, 16, 0, 112, 240, 0, 512, 2032, 0, 4096, 0, 28672, 61440, 0, 131072, 394752, 1046016, 0, 0, 4194304, 13501952, 32376320, 67108848, 134217720, 268435455, 536870911]
theorem spec_l02Spoil.tab7 : rtab .any (opsOf Tryd.f98 7) = spec_l02Spoil.T7 := by kernel_rfl
theorem spec_l02Spoil.bits7 : waitsOk spec_l02Spoil.T7.2 spec_l02Spoil.B7 = true := by kernel_rfl
def spec_l02Spoil.T11 : Bool × List (List Nat × List Nat) := (true, [([], []), ([0], [0]), ([], []), ([], []), ([2, 3], [2, 3]), ([4], [4]), ([1, 5, 4], [1, 5]), ([0, 1, 2, 3, 4, 5, 6], []), ([7, 6, 6, 0, 1, 2, 3, 4, 5, 6], [6, 7])])
def spec_l02Spoil.B11 : List Nat := [0, 1, 0, 0, 12, 28, 63, 127, 255]
theorem spec_l02Spoil.tab11 : rtab .any (opsOf Tryd.f98 11) = spec_l02Spoil.T11 := by kernel_rfl
theorem spec_l02Spoil.bits11 : waitsOk spec_l02Spoil.T11.2 spec_l02Spoil.B11 = true := by kernel_rfl
set_option maxHeartbeats 8000000 in
set_option maxRecDepth 100000 in
theorem spec_l02Spoil.calls (k : Nat) (g : Nat) (s0_0 : List Int) (s0_1 : Int) (s0_2 : Int) (a1 : Int) (r1 : Int) (r2 : List Int) (r3 : Int) (r4 : Int) (w0 w : World) (hI : Z101 w0 w g s0_0 s0_1 s0_2) (hB : Below w0.heap.size w0 w) (h : spec_l02Spoil.f k s0_0 s0_1 s0_2 a1 = some (r1, r2, r3, r4)) :
  Calls Tryd.prog 98 #[.pointer (some ⟨g, 0, none⟩), .int .i64 a1] w fun e w' => ∃ v1_ : Value, e = .returned (.agg #[.int .i64 r1, v1_]) ∧ Kd.R (Kd.int .i64) 2 w' w.heap.size (fun _ => True) v1_ r2 ∧ Z101 w0 w' g s0_0 r3 r4 ∧ Below w0.heap.size w0 w' ∧ KeepBut w w' g none := by
 have hu26 := Tryd.underlying26
 have HI0 := zA hI
 have HK := zA (KeepBut.refl w g none)
 have HL := zA hB.size
 clear hI
 have HW0 := zA hB.size
 have HB := zA hB
 clear hB
 have H : ((spec_l02Draw.f k s0_0 s0_1 s0_2 a1).bind fun bt231 => ((spec_l01Next.f s0_0 bt231.2.2.1 bt231.2.2.2 14).bind fun bt238 => (if bt238.1 > 0 then (some (bt231.1, bt231.2.1, bt238.2.1, bt238.2.2)) else ((spec_l01Next.f s0_0 bt238.2.1 bt238.2.2 4).bind fun bt241 => (if bt241.1 = 0 then ((spec_l01Pick.f s0_0 bt241.2.1 bt241.2.2 (([(-1), 9, wrap64 (bt231.1 + 1)] : List Int))).bind fun bt247 => (some (bt247.1, bt231.2.1, bt247.2.1, bt247.2.2))) else (if bt241.1 = 1 then ((spec_l01Pick.f s0_0 bt241.2.1 bt241.2.2 (([0, 1, 255] : List Int))).bind fun bt253 => (if bt231.2.1.length < 17592186044416 then (some (bt231.1, (bt231.2.1 ++ [bt253.1]), bt253.2.1, bt253.2.2)) else (none))) else (if bt231.1 > 0 then ((spec_l01Next.f s0_0 bt241.2.1 bt241.2.2 bt231.1).bind fun bt259 => (if 0 ≤ bt259.1 then (if bt259.1 < (bt231.2.1.length : Int) then ((spec_l01One.f bt259.1).bind fun t263 => ((spec_l01One.f bt231.1).bind fun t265 => ((spec_l01One.f bt231.1).bind fun t266 => ((spec_l01Next.f s0_0 bt259.2.1 bt259.2.2 t266).bind fun bt267 => ((spec_l01Pick.f s0_0 bt267.2.1 bt267.2.2 (([wrap64 ((rd bt231.2.1 bt259.1) - t263), Go.bits .or .i64 (rd bt231.2.1 bt259.1) t265, bt267.1, (-1)] : List Int))).bind fun bt273 => (some (bt231.1, (bt231.2.1.set (bt259.1 : Int).toNat bt273.1), bt273.2.1, bt273.2.2))))))) else (none)) else (none))) else (some (bt231.1, bt231.2.1, bt241.2.1, bt241.2.2))))))))) = some (r1, r2, r3, r4) := h
 clear h
 obtain ⟨⟨t231, t232, t235, t236⟩, A3, H⟩ := zb H
 try dsimp only at H
 obtain ⟨⟨t238, t239, t240⟩, A4, H⟩ := zb H
 try dsimp only at H
 by_cases c5 : t238 > 0
 ·rw [if_pos c5] at H
  have c5b0 : decide (0 < t238) = true := decide_eq_true c5
  clear c5
  simp only [Option.some.injEq, Prod.mk.injEq] at H
  obtain ⟨rfl, rfl, rfl, rfl⟩ := H
  go_enter Tryd.func98, Tryd.ntmps98
  go_wp2_with (first | ((with_reducible refine gate_dst (N := 4) rfl ?_); refine box_event ?hg (N := 4) ?hd (cs := #[.int .i64 0, .slice none 0 0]) (t := 26) ?hr ?_; (case hd => rfl); (case hg => rfl); (case hr => first | (go_simp; done) | (go_simp; rfl)); intro gb230 hg w6 hbox hb; replace HB := zA (below_step (zT HB.out (Z101.ge HI0.out)) hb); have BK230 := zA (hbox); have GW230 := zA ((by rw [hg]; exact (keep_size (w := w) (g := g) (row := none) (yA HK.out)) : w.heap.size ≤ gb230)); have GE230 := zA ((Nat.le_trans HW0.out (by rw [hg]; exact (keep_size (w := w) (g := g) (row := none) (yA HK.out)) : w.heap.size ≤ gb230) : w0.heap.size ≤ gb230)); replace HK := zA (KeepBut.trans (yA HK.out) (KeepBut.of_below hb g none) (.inl rfl)); have NB0_230 := zA ((by rw [hg]; exact Nat.ne_of_lt (Z101.lt (show Z101 w0 _ g s0_0 s0_1 s0_2 from Z101.uA HI0.out)) : g ≠ gb230)); have NB230_0 := zA ((by rw [hg]; exact Nat.ne_of_gt (Z101.lt (show Z101 w0 _ g s0_0 s0_1 s0_2 from Z101.uA HI0.out)) : gb230 ≠ g)); replace HI0 := zA (Z101.below (Z101.uA HI0.out) hb); clear hb hbox hg) | ((with_reducible refine gate_callee (f := 97) rfl ?_); refine zO (some 9) Tryd.func97 #[.pointer (some ⟨g, 0, none⟩), .int .i64 a1] ?_; (with_reducible refine (spec_l02Draw.calls k g s0_0 s0_1 s0_2 a1 t231 t232 t235 t236 w0 _ ?side1 ?side2 A3.out).mono ?_); (case side1 => exact Z101.uB HI0.out NB0_230.out); (case side2 => exact zV HB.out (Z101.ge HI0.out) GE230.out); rintro e w7 ⟨v233, rfl, ho0, hi, hb, hk⟩; refine ⟨_, rfl, ?_⟩; replace BK230 := zA (KeepBut.blk hk (g' := gb230) (o := .cells #[.int .i64 0, .slice none 0 0] 26 (0, 0)) (zR BK230.out) NB230_0.out (by simp)); have HO234 := zA (Kd.R_lower ho0 (keep_size (w := w) (g := g) (row := none) (yB HK.out GW230.out))); replace HK := zA (KeepBut.trans (yB HK.out GW230.out) hk (.inl rfl)); replace HB := zA (hb); replace HI0 := zA (hi); (try clear hb); (try clear hk); (try clear hi); (try clear ho0)) | ((with_reducible refine gate_dst (N := 5) rfl ?_); refine box_event ?hg (N := 5) ?hd (cs := #[.int .i64 0, .slice none 0 0]) (t := 26) ?hr ?_; (case hd => rfl); (case hg => rfl); (case hr => first | (go_simp; done) | (go_simp; rfl)); intro gb237 hg w8 hbox hb; replace HO234 := zA (Kd.R_below (zP HO234.out) hb); replace HB := zA (below_step (zV HB.out (Z101.ge HI0.out) GE230.out) hb); have BK237 := zA (hbox); have GW237 := zA ((by rw [hg]; exact (keep_size (w := w) (g := g) (row := none) (yB HK.out GW230.out)) : w.heap.size ≤ gb237)); have GE237 := zA ((Nat.le_trans HW0.out (by rw [hg]; exact (keep_size (w := w) (g := g) (row := none) (yB HK.out GW230.out)) : w.heap.size ≤ gb237) : w0.heap.size ≤ gb237)); replace HK := zA (KeepBut.trans (yB HK.out GW230.out) (KeepBut.of_below hb g none) (.inl rfl)); have NB230_237 := zA ((by rw [hg]; exact Nat.ne_of_lt (blk_lt (g := gb230) (o := .cells #[.int .i64 0, .slice none 0 0] 26 (0, 0)) (zR BK230.out)) : gb230 ≠ gb237)); have NB237_230 := zA ((by rw [hg]; exact Nat.ne_of_gt (blk_lt (g := gb230) (o := .cells #[.int .i64 0, .slice none 0 0] 26 (0, 0)) (zR BK230.out)) : gb237 ≠ gb230)); replace BK230 := zA (blk_below (g := gb230) (o := .cells #[.int .i64 0, .slice none 0 0] 26 (0, 0)) (zR BK230.out) hb); have NB0_237 := zA ((by rw [hg]; exact Nat.ne_of_lt (Z101.lt (show Z101 w0 _ g s0_0 t235 t236 from Z101.uB HI0.out NB0_230.out)) : g ≠ gb237)); have NB237_0 := zA ((by rw [hg]; exact Nat.ne_of_gt (Z101.lt (show Z101 w0 _ g s0_0 t235 t236 from Z101.uB HI0.out NB0_230.out)) : gb237 ≠ g)); replace HI0 := zA (Z101.below (Z101.uB HI0.out NB0_230.out) hb); clear hb hbox hg; have hnb9 := NB237_230.out; have hnc9 := NB230_237.out; have hnb10 := NB237_0.out; have hnc10 := NB0_237.out; have hcz11_0 : w8.cell? ⟨gb237, 0, none⟩ = some (.int .i64 0) := (blk_cell BK237.out 0).trans rfl; have hcz11_1 : w8.cell? ⟨gb237, 1, none⟩ = some (.slice none 0 0) := (blk_cell BK237.out 1).trans rfl; have hfz11_0 := blk_frozen BK237.out 0; have hfz11_1 := blk_frozen BK237.out 1; obtain ⟨Ao12, co12, eo12⟩ := Kd.R_slice HO234.out; subst eo12) | ((with_reducible refine gate_callee (f := 79) rfl ?_); refine zO (some 11) Tryd.func79 #[.pointer (some ⟨g, 0, none⟩), .int .i64 14] ?_; (with_reducible refine (spec_l01Next.calls g s0_0 t235 t236 14 t238 t239 t240 w0 _ ?side1 ?side2 A4.out).mono ?_); (case side1 => exact Z101.uC HI0.out NB0_230.out NB0_237.out); (case side2 => exact zW HB.out (Z101.ge HI0.out) GE230.out GE237.out); rintro e w13 ⟨rfl, hi, hb, hk⟩; refine ⟨_, rfl, ?_⟩; replace BK230 := zA (KeepBut.blk hk (g' := gb230) (o := .cells #[.int .i64 0, .slice none 0 0] 26 (0, 0)) (by (with_reducible repeat (first | refine zJ ?_ _ | refine zK ?_ | refine zI ?_ _)); refine blk_far ?_ NB230_237.out _; (with_reducible repeat (first | refine zJ ?_ _ | refine zK ?_ | refine zI ?_ _)); refine blk_far ?_ NB230_237.out _; (with_reducible repeat (first | refine zJ ?_ _ | refine zK ?_ | refine zI ?_ _)); exact BK230.out) NB230_0.out (by simp)); replace HO234 := zA (Kd.R_mono (Kd.R_keep (Z101.apart (show Z101 w0 _ g s0_0 t235 t236 from Z101.uC HI0.out NB0_230.out NB0_237.out) (by (with_reducible repeat (first | apply zF | apply zG | apply zH)); exact (Kd.R_mono (Kd.R_far (p := ⟨gb237, 1, none⟩) (Kd.R_far (p := ⟨gb237, 0, none⟩) (Kd.R_types HO234.out BK237.out (by decide)) (fun _ hk => hk.2) (.int .i64 t231)) (fun _ hk => hk.2) (.slice Ao12 t232.length co12)) (fun _ h_ => h_.1))) (by decide)) hk (fun _ h => h.2)) (fun _ h => h.1)); replace BK237 := zA (KeepBut.blk hk (g' := gb237) (o := .cells #[.int .i64 t231, .slice Ao12 t232.length co12] 26 (0, 0)) (by (with_reducible repeat (first | refine zJ ?_ _ | refine zK ?_ | refine zI ?_ _)); refine blk_put (cs := #[.int .i64 t231, .slice none 0 0]) ?_ 1 _ rfl; (with_reducible repeat (first | refine zJ ?_ _ | refine zK ?_ | refine zI ?_ _)); refine blk_put (cs := #[.int .i64 0, .slice none 0 0]) ?_ 0 _ rfl; (with_reducible repeat (first | refine zJ ?_ _ | refine zK ?_ | refine zI ?_ _)); exact BK237.out) NB237_0.out (by simp)); replace HK := zA (KeepBut.trans (yC HK.out GW230.out GW237.out) hk (.inl rfl)); replace HB := zA (hb); replace HI0 := zA (hi); (try clear hb); (try clear hk); (try clear hi); have hcz14_0 : w13.cell? ⟨gb237, 0, none⟩ = some (.int .i64 t231) := (blk_cell BK237.out 0).trans rfl; have hcz14_1 : w13.cell? ⟨gb237, 1, none⟩ = some (.slice Ao12 t232.length co12) := (blk_cell BK237.out 1).trans rfl; have hfz14_0 := blk_frozen BK237.out 0; have hfz14_1 := blk_frozen BK237.out 1; have hnb15 := NB230_0.out; have hnc15 := NB0_230.out; have hcz16_0 : w13.cell? ⟨gb230, 0, none⟩ = some (.int .i64 0) := (blk_cell BK230.out 0).trans rfl; have hcz16_1 : w13.cell? ⟨gb230, 1, none⟩ = some (.slice none 0 0) := (blk_cell BK230.out 1).trans rfl; have hfz16_0 := blk_frozen BK230.out 0; have hfz16_1 := blk_frozen BK230.out 1))
  refine bodyPost_ret (results_cell_row rfl _ _ gb230 26 #[.int .i64 t231, .slice Ao12 t232.length co12] (0, 0) _ rfl (by (with_reducible repeat (first | refine zJ ?_ _ | refine zK ?_ | refine zI ?_ _)); refine blk_put (cs := #[.int .i64 t231, .slice none 0 0]) ?_ 1 _ rfl; (with_reducible repeat (first | refine zJ ?_ _ | refine zK ?_ | refine zI ?_ _)); refine blk_put (cs := #[.int .i64 0, .slice none 0 0]) ?_ 0 _ rfl; (with_reducible repeat (first | refine zJ ?_ _ | refine zK ?_ | refine zI ?_ _)); exact BK230.out) Tryd.underlying26 rfl (by kernel_rfl)) rfl ?_
  exact ⟨_, zr, by (with_reducible repeat (first | apply zF | apply zG | apply zH)); exact Kd.R_mono (Kd.R_far (p := ⟨gb230, 1, none⟩) (Kd.R_far (p := ⟨gb230, 0, none⟩) (Kd.R_types HO234.out BK230.out (by decide)) (fun _ hk => hk.2) (.int .i64 t231)) (fun _ hk => hk.2) (.slice Ao12 t232.length co12)) (fun _ hk => trivial), by repeat (first | (with_reducible first | exact HI0.out | apply Z101.alloc | apply Z101.drewN | apply Z101.drew | apply Z101.set_1 | apply Z101.set_2 | refine Z101.far ?_ NB0_230.out _ | refine Z101.far ?_ NB0_237.out _) | exact HI0.out), zW HB.out (Z101.ge HI0.out) GE230.out GE237.out, by repeat (first | (with_reducible first | exact HK.out | apply KeepBut.set_ | apply keep_drewN | apply keep_drew | apply keep_alloc | refine keep_far ?_ GW230.out _ | refine keep_far ?_ GW237.out _) | exact HK.out)⟩
 rw [if_neg c5] at H
 have c5b0 : decide (0 < t238) = false := decide_eq_false c5
 clear c5
 obtain ⟨⟨t241, t242, t243⟩, A17, H⟩ := zb H
 try dsimp only at H
 by_cases c18 : t241 = 0
 ·rw [if_pos c18] at H
  have c18b0 : (t241 == 0) = true := beq_iff_eq.mpr c18
  have c18b1 : (t241 != 0) = false := bne_eq_false_iff_eq.mpr c18
  clear c18
  obtain ⟨y244, hy244⟩ : ∃ y_ : List Int, y_ = (([(-1), 9, wrap64 (t231 + 1)] : List Int)) := ⟨_, rfl⟩
  replace H : ((spec_l01Pick.f s0_0 t242 t243 y244).bind fun bt247 => (some (bt247.1, t232, bt247.2.1, bt247.2.2))) = some (r1, r2, r3, r4) := zy hy244 H
  have Ny244 := zA hy244
  clear hy244
  obtain ⟨⟨t247, t248, t249⟩, A19, H⟩ := zb H
  try dsimp only at H
  simp only [Option.some.injEq, Prod.mk.injEq] at H
  obtain ⟨rfl, rfl, rfl, rfl⟩ := H
  go_enter Tryd.func98, Tryd.ntmps98
  go_wp2_with (first | ((with_reducible refine gate_dst (N := 4) rfl ?_); refine box_event ?hg (N := 4) ?hd (cs := #[.int .i64 0, .slice none 0 0]) (t := 26) ?hr ?_; (case hd => rfl); (case hg => rfl); (case hr => first | (go_simp; done) | (go_simp; rfl)); intro gb230 hg w20 hbox hb; replace HB := zA (below_step (zT HB.out (Z101.ge HI0.out)) hb); have BK230 := zA (hbox); have GW230 := zA ((by rw [hg]; exact (keep_size (w := w) (g := g) (row := none) (yA HK.out)) : w.heap.size ≤ gb230)); have GE230 := zA ((Nat.le_trans HW0.out (by rw [hg]; exact (keep_size (w := w) (g := g) (row := none) (yA HK.out)) : w.heap.size ≤ gb230) : w0.heap.size ≤ gb230)); replace HK := zA (KeepBut.trans (yA HK.out) (KeepBut.of_below hb g none) (.inl rfl)); have NB0_230 := zA ((by rw [hg]; exact Nat.ne_of_lt (Z101.lt (show Z101 w0 _ g s0_0 s0_1 s0_2 from Z101.uA HI0.out)) : g ≠ gb230)); have NB230_0 := zA ((by rw [hg]; exact Nat.ne_of_gt (Z101.lt (show Z101 w0 _ g s0_0 s0_1 s0_2 from Z101.uA HI0.out)) : gb230 ≠ g)); replace HI0 := zA (Z101.below (Z101.uA HI0.out) hb); clear hb hbox hg) | ((with_reducible refine gate_callee (f := 97) rfl ?_); refine zO (some 9) Tryd.func97 #[.pointer (some ⟨g, 0, none⟩), .int .i64 a1] ?_; (with_reducible refine (spec_l02Draw.calls k g s0_0 s0_1 s0_2 a1 t231 t232 t235 t236 w0 _ ?side1 ?side2 A3.out).mono ?_); (case side1 => exact Z101.uB HI0.out NB0_230.out); (case side2 => exact zV HB.out (Z101.ge HI0.out) GE230.out); rintro e w21 ⟨v233, rfl, ho0, hi, hb, hk⟩; refine ⟨_, rfl, ?_⟩; replace BK230 := zA (KeepBut.blk hk (g' := gb230) (o := .cells #[.int .i64 0, .slice none 0 0] 26 (0, 0)) (zR BK230.out) NB230_0.out (by simp)); have HO234 := zA (Kd.R_lower ho0 (keep_size (w := w) (g := g) (row := none) (yB HK.out GW230.out))); replace HK := zA (KeepBut.trans (yB HK.out GW230.out) hk (.inl rfl)); replace HB := zA (hb); replace HI0 := zA (hi); (try clear hb); (try clear hk); (try clear hi); (try clear ho0)) | ((with_reducible refine gate_dst (N := 5) rfl ?_); refine box_event ?hg (N := 5) ?hd (cs := #[.int .i64 0, .slice none 0 0]) (t := 26) ?hr ?_; (case hd => rfl); (case hg => rfl); (case hr => first | (go_simp; done) | (go_simp; rfl)); intro gb237 hg w22 hbox hb; replace HO234 := zA (Kd.R_below (zP HO234.out) hb); replace HB := zA (below_step (zV HB.out (Z101.ge HI0.out) GE230.out) hb); have BK237 := zA (hbox); have GW237 := zA ((by rw [hg]; exact (keep_size (w := w) (g := g) (row := none) (yB HK.out GW230.out)) : w.heap.size ≤ gb237)); have GE237 := zA ((Nat.le_trans HW0.out (by rw [hg]; exact (keep_size (w := w) (g := g) (row := none) (yB HK.out GW230.out)) : w.heap.size ≤ gb237) : w0.heap.size ≤ gb237)); replace HK := zA (KeepBut.trans (yB HK.out GW230.out) (KeepBut.of_below hb g none) (.inl rfl)); have NB230_237 := zA ((by rw [hg]; exact Nat.ne_of_lt (blk_lt (g := gb230) (o := .cells #[.int .i64 0, .slice none 0 0] 26 (0, 0)) (zR BK230.out)) : gb230 ≠ gb237)); have NB237_230 := zA ((by rw [hg]; exact Nat.ne_of_gt (blk_lt (g := gb230) (o := .cells #[.int .i64 0, .slice none 0 0] 26 (0, 0)) (zR BK230.out)) : gb237 ≠ gb230)); replace BK230 := zA (blk_below (g := gb230) (o := .cells #[.int .i64 0, .slice none 0 0] 26 (0, 0)) (zR BK230.out) hb); have NB0_237 := zA ((by rw [hg]; exact Nat.ne_of_lt (Z101.lt (show Z101 w0 _ g s0_0 t235 t236 from Z101.uB HI0.out NB0_230.out)) : g ≠ gb237)); have NB237_0 := zA ((by rw [hg]; exact Nat.ne_of_gt (Z101.lt (show Z101 w0 _ g s0_0 t235 t236 from Z101.uB HI0.out NB0_230.out)) : gb237 ≠ g)); replace HI0 := zA (Z101.below (Z101.uB HI0.out NB0_230.out) hb); clear hb hbox hg; have hnb23 := NB237_230.out; have hnc23 := NB230_237.out; have hnb24 := NB237_0.out; have hnc24 := NB0_237.out; have hcz25_0 : w22.cell? ⟨gb237, 0, none⟩ = some (.int .i64 0) := (blk_cell BK237.out 0).trans rfl; have hcz25_1 : w22.cell? ⟨gb237, 1, none⟩ = some (.slice none 0 0) := (blk_cell BK237.out 1).trans rfl; have hfz25_0 := blk_frozen BK237.out 0; have hfz25_1 := blk_frozen BK237.out 1; obtain ⟨Ao26, co26, eo26⟩ := Kd.R_slice HO234.out; subst eo26) | ((with_reducible refine gate_callee (f := 79) rfl ?_); refine zO (some 11) Tryd.func79 #[.pointer (some ⟨g, 0, none⟩), .int .i64 14] ?_; (with_reducible refine (spec_l01Next.calls g s0_0 t235 t236 14 t238 t239 t240 w0 _ ?side1 ?side2 A4.out).mono ?_); (case side1 => exact Z101.uC HI0.out NB0_230.out NB0_237.out); (case side2 => exact zW HB.out (Z101.ge HI0.out) GE230.out GE237.out); rintro e w27 ⟨rfl, hi, hb, hk⟩; refine ⟨_, rfl, ?_⟩; replace BK230 := zA (KeepBut.blk hk (g' := gb230) (o := .cells #[.int .i64 0, .slice none 0 0] 26 (0, 0)) (by (with_reducible repeat (first | refine zJ ?_ _ | refine zK ?_ | refine zI ?_ _)); refine blk_far ?_ NB230_237.out _; (with_reducible repeat (first | refine zJ ?_ _ | refine zK ?_ | refine zI ?_ _)); refine blk_far ?_ NB230_237.out _; (with_reducible repeat (first | refine zJ ?_ _ | refine zK ?_ | refine zI ?_ _)); exact BK230.out) NB230_0.out (by simp)); replace HO234 := zA (Kd.R_mono (Kd.R_keep (Z101.apart (show Z101 w0 _ g s0_0 t235 t236 from Z101.uC HI0.out NB0_230.out NB0_237.out) (by (with_reducible repeat (first | apply zF | apply zG | apply zH)); exact (Kd.R_mono (Kd.R_far (p := ⟨gb237, 1, none⟩) (Kd.R_far (p := ⟨gb237, 0, none⟩) (Kd.R_types HO234.out BK237.out (by decide)) (fun _ hk => hk.2) (.int .i64 t231)) (fun _ hk => hk.2) (.slice Ao26 t232.length co26)) (fun _ h_ => h_.1))) (by decide)) hk (fun _ h => h.2)) (fun _ h => h.1)); replace BK237 := zA (KeepBut.blk hk (g' := gb237) (o := .cells #[.int .i64 t231, .slice Ao26 t232.length co26] 26 (0, 0)) (by (with_reducible repeat (first | refine zJ ?_ _ | refine zK ?_ | refine zI ?_ _)); refine blk_put (cs := #[.int .i64 t231, .slice none 0 0]) ?_ 1 _ rfl; (with_reducible repeat (first | refine zJ ?_ _ | refine zK ?_ | refine zI ?_ _)); refine blk_put (cs := #[.int .i64 0, .slice none 0 0]) ?_ 0 _ rfl; (with_reducible repeat (first | refine zJ ?_ _ | refine zK ?_ | refine zI ?_ _)); exact BK237.out) NB237_0.out (by simp)); replace HK := zA (KeepBut.trans (yC HK.out GW230.out GW237.out) hk (.inl rfl)); replace HB := zA (hb); replace HI0 := zA (hi); (try clear hb); (try clear hk); (try clear hi)) | ((with_reducible refine gate_callee (f := 79) rfl ?_); refine zO (some 15) Tryd.func79 #[.pointer (some ⟨g, 0, none⟩), .int .i64 4] ?_; (with_reducible refine (spec_l01Next.calls g s0_0 t239 t240 4 t241 t242 t243 w0 _ ?side1 ?side2 A17.out).mono ?_); (case side1 => exact Z101.uC HI0.out NB0_230.out NB0_237.out); (case side2 => exact zW HB.out (Z101.ge HI0.out) GE230.out GE237.out); rintro e w28 ⟨rfl, hi, hb, hk⟩; refine ⟨_, rfl, ?_⟩; replace BK230 := zA (KeepBut.blk hk (g' := gb230) (o := .cells #[.int .i64 0, .slice none 0 0] 26 (0, 0)) (zR BK230.out) NB230_0.out (by simp)); replace HO234 := zA (Kd.R_mono (Kd.R_keep (Z101.apart (show Z101 w0 _ g s0_0 t239 t240 from Z101.uC HI0.out NB0_230.out NB0_237.out) (zP HO234.out) (by decide)) hk (fun _ h => h.2)) (fun _ h => h.1)); replace BK237 := zA (KeepBut.blk hk (g' := gb237) (o := .cells #[.int .i64 t231, .slice Ao26 t232.length co26] 26 (0, 0)) (zR BK237.out) NB237_0.out (by simp)); replace HK := zA (KeepBut.trans (yC HK.out GW230.out GW237.out) hk (.inl rfl)); replace HB := zA (hb); replace HI0 := zA (hi); (try clear hb); (try clear hk); (try clear hi); have hcz29_0 : w28.cell? ⟨gb237, 0, none⟩ = some (.int .i64 t231) := (blk_cell BK237.out 0).trans rfl; have hcz29_1 : w28.cell? ⟨gb237, 1, none⟩ = some (.slice Ao26 t232.length co26) := (blk_cell BK237.out 1).trans rfl; have hfz29_0 := blk_frozen BK237.out 0; have hfz29_1 := blk_frozen BK237.out 1) | ((with_reducible refine gate_dst (N := 58) rfl ?_); refine Kd.R_lit (Kd.int .i64) _ 2 ?hg (N := 58) ?hd (xs := ([(-1), 9, wrap64 (t231 + 1)] : List Int)) (inner := [.int .i64 (-1), .int .i64 9, .int .i64 (wrap64 (t231 + 1))]) (ok := fun _ => True) (okp := fun _ => True) ?hr ?hp (fun _ hk => hk) trivial (Below.refl _ _) (Nat.le_refl _) (by simp) ?_; (case hd => rfl); (case hg => rfl); (case hr => first | (go_simp; done) | (go_simp; rfl)); (case hp => exact (Reps.one (show Kd.M (Kd.int .i64) _ _ _ (-1) [.int .i64 (-1)] from rfl) (Reps.one (show Kd.M (Kd.int .i64) _ _ _ 9 [.int .i64 9] from rfl) (Reps.one (show Kd.M (Kd.int .i64) _ _ _ (wrap64 (t231 + 1)) [.int .i64 (wrap64 (t231 + 1))] from rfl) (Reps.none _ _))))); intro v245 w30 ho31 hb hg_ hnew_; clear hg_ hnew_; (first | rw [← Ny244.out] at ho31 | (simp only [Int.reduceToNat] at ho31; rw [← Ny244.out] at ho31)); have HO246 := zA (Kd.R_lower (Kd.R_new' ho31 (Kd.R_lt (zP HO234.out))) (keep_size (w := w) (g := g) (row := none) (yC HK.out GW230.out GW237.out))); replace HO234 := zA (Kd.R_elder' (zP HO234.out) (Kd.R_base ho31) hb); replace BK230 := zA (blk_below (g := gb230) (o := .cells #[.int .i64 0, .slice none 0 0] 26 (0, 0)) (zR BK230.out) hb); replace BK237 := zA (blk_below (g := gb237) (o := .cells #[.int .i64 t231, .slice Ao26 t232.length co26] 26 (0, 0)) (zR BK237.out) hb); replace HK := zA (KeepBut.trans (yC HK.out GW230.out GW237.out) (KeepBut.of_below hb g none) (.inl rfl)); replace HB := zA (below_step (zW HB.out (Z101.ge HI0.out) GE230.out GE237.out) hb); replace HI0 := zA (Z101.below (Z101.uC HI0.out NB0_230.out NB0_237.out) hb); clear hb ho31; obtain ⟨Ao32, co32, eo32⟩ := Kd.R_slice HO246.out; subst eo32) | ((with_reducible refine gate_callee (f := 81) rfl ?_); refine zO (some 59) Tryd.func81 #[.pointer (some ⟨g, 0, none⟩), .slice Ao32 y244.length co32] ?_; (with_reducible refine (spec_l01Pick.calls g s0_0 t242 t243 _ _ y244 t247 t248 t249 w0 _ ?side1 ?side2 ?side3 ?side4 ?side5 A19.out).mono ?_); (case side1 => exact Z101.uC HI0.out NB0_230.out NB0_237.out); (case side2 => exact zW HB.out (Z101.ge HI0.out) GE230.out GE237.out); (case side3 => exact zS (Kd.R_reads' HO246.out).2.2); (case side4 => exact (Kd.R_reads' HO246.out).2.1); (case side5 => exact far_slice (Z101.own_ne HI0.out HO246.out (by decide))); rintro e w33 ⟨rfl, hi, hb, hk⟩; refine ⟨_, rfl, ?_⟩; replace BK230 := zA (KeepBut.blk hk (g' := gb230) (o := .cells #[.int .i64 0, .slice none 0 0] 26 (0, 0)) (zR BK230.out) NB230_0.out (by simp)); replace HO234 := zA (Kd.R_mono (Kd.R_keep (Z101.apart (show Z101 w0 _ g s0_0 t242 t243 from Z101.uC HI0.out NB0_230.out NB0_237.out) (zP HO234.out) (by decide)) hk (fun _ h => h.2)) (fun _ h => h.1)); replace BK237 := zA (KeepBut.blk hk (g' := gb237) (o := .cells #[.int .i64 t231, .slice Ao26 t232.length co26] 26 (0, 0)) (zR BK237.out) NB237_0.out (by simp)); replace HO246 := zA (Kd.R_mono (Kd.R_keep (Z101.apart (show Z101 w0 _ g s0_0 t242 t243 from Z101.uC HI0.out NB0_230.out NB0_237.out) (zP HO246.out) (by decide)) hk (fun _ h => h.2)) (fun _ h => h.1)); replace HK := zA (KeepBut.trans (yC HK.out GW230.out GW237.out) hk (.inl rfl)); replace HB := zA (hb); replace HI0 := zA (hi); (try clear hb); (try clear hk); (try clear hi); have hcz34_0 : w33.cell? ⟨gb237, 0, none⟩ = some (.int .i64 t231) := (blk_cell BK237.out 0).trans rfl; have hcz34_1 : w33.cell? ⟨gb237, 1, none⟩ = some (.slice Ao26 t232.length co26) := (blk_cell BK237.out 1).trans rfl; have hfz34_0 := blk_frozen BK237.out 0; have hfz34_1 := blk_frozen BK237.out 1; have hnb35 := NB230_0.out; have hnc35 := NB0_230.out; have hcz36_0 : w33.cell? ⟨gb230, 0, none⟩ = some (.int .i64 0) := (blk_cell BK230.out 0).trans rfl; have hcz36_1 : w33.cell? ⟨gb230, 1, none⟩ = some (.slice none 0 0) := (blk_cell BK230.out 1).trans rfl; have hfz36_0 := blk_frozen BK230.out 0; have hfz36_1 := blk_frozen BK230.out 1))
  refine bodyPost_ret (results_cell_row rfl _ _ gb230 26 #[.int .i64 t247, .slice Ao26 t232.length co26] (0, 0) _ rfl (by (with_reducible repeat (first | refine zJ ?_ _ | refine zK ?_ | refine zI ?_ _)); refine blk_put (cs := #[.int .i64 t247, .slice none 0 0]) ?_ 1 _ rfl; (with_reducible repeat (first | refine zJ ?_ _ | refine zK ?_ | refine zI ?_ _)); refine blk_put (cs := #[.int .i64 0, .slice none 0 0]) ?_ 0 _ rfl; (with_reducible repeat (first | refine zJ ?_ _ | refine zK ?_ | refine zI ?_ _)); refine blk_far ?_ NB230_237.out _; (with_reducible repeat (first | refine zJ ?_ _ | refine zK ?_ | refine zI ?_ _)); exact BK230.out) Tryd.underlying26 rfl (by kernel_rfl)) rfl ?_
  exact ⟨_, zr, by (with_reducible repeat (first | apply zF | apply zG | apply zH)); exact Kd.R_mono (Kd.R_far (p := ⟨gb230, 1, none⟩) (Kd.R_far (p := ⟨gb230, 0, none⟩) (Kd.R_far (p := ⟨gb237, 0, none⟩) (Kd.R_types (Kd.R_types HO234.out BK237.out (by decide)) BK230.out (by decide)) (fun _ hk => hk.1.2) (.int .i64 t247)) (fun _ hk => hk.2) (.int .i64 t247)) (fun _ hk => hk.2) (.slice Ao26 t232.length co26)) (fun _ hk => trivial), by repeat (first | (with_reducible first | exact HI0.out | apply Z101.alloc | apply Z101.drewN | apply Z101.drew | apply Z101.set_1 | apply Z101.set_2 | refine Z101.far ?_ NB0_230.out _ | refine Z101.far ?_ NB0_237.out _) | exact HI0.out), zW HB.out (Z101.ge HI0.out) GE230.out GE237.out, by repeat (first | (with_reducible first | exact HK.out | apply KeepBut.set_ | apply keep_drewN | apply keep_drew | apply keep_alloc | refine keep_far ?_ GW230.out _ | refine keep_far ?_ GW237.out _) | exact HK.out)⟩
 rw [if_neg c18] at H
 have c18b0 : (t241 == 0) = false := beq_eq_false_iff_ne.mpr c18
 have c18b1 : (t241 != 0) = true := bne_iff_ne.mpr c18
 by_cases c37 : t241 = 1
 ·rw [if_pos c37] at H
  have c37b0 : (t241 == 1) = true := beq_iff_eq.mpr c37
  have c37b1 : (t241 != 1) = false := bne_eq_false_iff_eq.mpr c37
  clear c37
  obtain ⟨y250, hy250⟩ : ∃ y_ : List Int, y_ = (([0, 1, 255] : List Int)) := ⟨_, rfl⟩
  replace H : ((spec_l01Pick.f s0_0 t242 t243 y250).bind fun bt253 => (if t232.length < 17592186044416 then (some (t231, (t232 ++ [bt253.1]), bt253.2.1, bt253.2.2)) else (none))) = some (r1, r2, r3, r4) := zy hy250 H
  have Ny250 := zA hy250
  clear hy250
  obtain ⟨⟨t253, t254, t255⟩, A38, H⟩ := zb H
  try dsimp only at H
  by_cases c39 : t232.length < 17592186044416
  ·rw [if_pos c39] at H
   have LMc39 := zA c39
   clear c39
   obtain ⟨y256, hy256⟩ : ∃ y_ : List Int, y_ = (t232 ++ [t253]) := ⟨_, rfl⟩
   replace H : (some (t231, y256, t254, t255)) = some (r1, r2, r3, r4) := zy hy256 H
   have Ny256 := zA hy256
   clear hy256
   simp only [Option.some.injEq, Prod.mk.injEq] at H
   obtain ⟨rfl, rfl, rfl, rfl⟩ := H
   go_enter Tryd.func98, Tryd.ntmps98
   try go_wp2_with (first | ((with_reducible refine gate_dst (N := 4) rfl ?_); refine box_event ?hg (N := 4) ?hd (cs := #[.int .i64 0, .slice none 0 0]) (t := 26) ?hr ?_; (case hd => rfl); (case hg => rfl); (case hr => first | (go_simp; done) | (go_simp; rfl)); intro gb230 hg w40 hbox hb; replace HB := zA (below_step (zT HB.out (Z101.ge HI0.out)) hb); have BK230 := zA (hbox); have GW230 := zA ((by rw [hg]; exact (keep_size (w := w) (g := g) (row := none) (yA HK.out)) : w.heap.size ≤ gb230)); have GE230 := zA ((Nat.le_trans HW0.out (by rw [hg]; exact (keep_size (w := w) (g := g) (row := none) (yA HK.out)) : w.heap.size ≤ gb230) : w0.heap.size ≤ gb230)); replace HK := zA (KeepBut.trans (yA HK.out) (KeepBut.of_below hb g none) (.inl rfl)); have NB0_230 := zA ((by rw [hg]; exact Nat.ne_of_lt (Z101.lt (show Z101 w0 _ g s0_0 s0_1 s0_2 from Z101.uA HI0.out)) : g ≠ gb230)); have NB230_0 := zA ((by rw [hg]; exact Nat.ne_of_gt (Z101.lt (show Z101 w0 _ g s0_0 s0_1 s0_2 from Z101.uA HI0.out)) : gb230 ≠ g)); replace HI0 := zA (Z101.below (Z101.uA HI0.out) hb); clear hb hbox hg) | ((with_reducible refine gate_callee (f := 97) rfl ?_); refine zO (some 9) Tryd.func97 #[.pointer (some ⟨g, 0, none⟩), .int .i64 a1] ?_; (with_reducible refine (spec_l02Draw.calls k g s0_0 s0_1 s0_2 a1 t231 t232 t235 t236 w0 _ ?side1 ?side2 A3.out).mono ?_); (case side1 => exact Z101.uB HI0.out NB0_230.out); (case side2 => exact zV HB.out (Z101.ge HI0.out) GE230.out); rintro e w41 ⟨v233, rfl, ho0, hi, hb, hk⟩; refine ⟨_, rfl, ?_⟩; replace BK230 := zA (KeepBut.blk hk (g' := gb230) (o := .cells #[.int .i64 0, .slice none 0 0] 26 (0, 0)) (zR BK230.out) NB230_0.out (by simp)); have HO234 := zA (Kd.R_lower ho0 (keep_size (w := w) (g := g) (row := none) (yB HK.out GW230.out))); replace HK := zA (KeepBut.trans (yB HK.out GW230.out) hk (.inl rfl)); replace HB := zA (hb); replace HI0 := zA (hi); (try clear hb); (try clear hk); (try clear hi); (try clear ho0)) | ((with_reducible refine gate_dst (N := 5) rfl ?_); refine box_event ?hg (N := 5) ?hd (cs := #[.int .i64 0, .slice none 0 0]) (t := 26) ?hr ?_; (case hd => rfl); (case hg => rfl); (case hr => first | (go_simp; done) | (go_simp; rfl)); intro gb237 hg w42 hbox hb; replace HO234 := zA (Kd.R_below (zP HO234.out) hb); replace HB := zA (below_step (zV HB.out (Z101.ge HI0.out) GE230.out) hb); have BK237 := zA (hbox); have GW237 := zA ((by rw [hg]; exact (keep_size (w := w) (g := g) (row := none) (yB HK.out GW230.out)) : w.heap.size ≤ gb237)); have GE237 := zA ((Nat.le_trans HW0.out (by rw [hg]; exact (keep_size (w := w) (g := g) (row := none) (yB HK.out GW230.out)) : w.heap.size ≤ gb237) : w0.heap.size ≤ gb237)); replace HK := zA (KeepBut.trans (yB HK.out GW230.out) (KeepBut.of_below hb g none) (.inl rfl)); have NB230_237 := zA ((by rw [hg]; exact Nat.ne_of_lt (blk_lt (g := gb230) (o := .cells #[.int .i64 0, .slice none 0 0] 26 (0, 0)) (zR BK230.out)) : gb230 ≠ gb237)); have NB237_230 := zA ((by rw [hg]; exact Nat.ne_of_gt (blk_lt (g := gb230) (o := .cells #[.int .i64 0, .slice none 0 0] 26 (0, 0)) (zR BK230.out)) : gb237 ≠ gb230)); replace BK230 := zA (blk_below (g := gb230) (o := .cells #[.int .i64 0, .slice none 0 0] 26 (0, 0)) (zR BK230.out) hb); have NB0_237 := zA ((by rw [hg]; exact Nat.ne_of_lt (Z101.lt (show Z101 w0 _ g s0_0 t235 t236 from Z101.uB HI0.out NB0_230.out)) : g ≠ gb237)); have NB237_0 := zA ((by rw [hg]; exact Nat.ne_of_gt (Z101.lt (show Z101 w0 _ g s0_0 t235 t236 from Z101.uB HI0.out NB0_230.out)) : gb237 ≠ g)); replace HI0 := zA (Z101.below (Z101.uB HI0.out NB0_230.out) hb); clear hb hbox hg; have hnb43 := NB237_230.out; have hnc43 := NB230_237.out; have hnb44 := NB237_0.out; have hnc44 := NB0_237.out; have hcz45_0 : w42.cell? ⟨gb237, 0, none⟩ = some (.int .i64 0) := (blk_cell BK237.out 0).trans rfl; have hcz45_1 : w42.cell? ⟨gb237, 1, none⟩ = some (.slice none 0 0) := (blk_cell BK237.out 1).trans rfl; have hfz45_0 := blk_frozen BK237.out 0; have hfz45_1 := blk_frozen BK237.out 1; obtain ⟨Ao46, co46, eo46⟩ := Kd.R_slice HO234.out; subst eo46) | ((with_reducible refine gate_callee (f := 79) rfl ?_); refine zO (some 11) Tryd.func79 #[.pointer (some ⟨g, 0, none⟩), .int .i64 14] ?_; (with_reducible refine (spec_l01Next.calls g s0_0 t235 t236 14 t238 t239 t240 w0 _ ?side1 ?side2 A4.out).mono ?_); (case side1 => exact Z101.uC HI0.out NB0_230.out NB0_237.out); (case side2 => exact zW HB.out (Z101.ge HI0.out) GE230.out GE237.out); rintro e w47 ⟨rfl, hi, hb, hk⟩; refine ⟨_, rfl, ?_⟩; replace BK230 := zA (KeepBut.blk hk (g' := gb230) (o := .cells #[.int .i64 0, .slice none 0 0] 26 (0, 0)) (by (with_reducible repeat (first | refine zJ ?_ _ | refine zK ?_ | refine zI ?_ _)); refine blk_far ?_ NB230_237.out _; (with_reducible repeat (first | refine zJ ?_ _ | refine zK ?_ | refine zI ?_ _)); refine blk_far ?_ NB230_237.out _; (with_reducible repeat (first | refine zJ ?_ _ | refine zK ?_ | refine zI ?_ _)); exact BK230.out) NB230_0.out (by simp)); replace HO234 := zA (Kd.R_mono (Kd.R_keep (Z101.apart (show Z101 w0 _ g s0_0 t235 t236 from Z101.uC HI0.out NB0_230.out NB0_237.out) (by (with_reducible repeat (first | apply zF | apply zG | apply zH)); exact (Kd.R_mono (Kd.R_far (p := ⟨gb237, 1, none⟩) (Kd.R_far (p := ⟨gb237, 0, none⟩) (Kd.R_types HO234.out BK237.out (by decide)) (fun _ hk => hk.2) (.int .i64 t231)) (fun _ hk => hk.2) (.slice Ao46 t232.length co46)) (fun _ h_ => h_.1))) (by decide)) hk (fun _ h => h.2)) (fun _ h => h.1)); replace BK237 := zA (KeepBut.blk hk (g' := gb237) (o := .cells #[.int .i64 t231, .slice Ao46 t232.length co46] 26 (0, 0)) (by (with_reducible repeat (first | refine zJ ?_ _ | refine zK ?_ | refine zI ?_ _)); refine blk_put (cs := #[.int .i64 t231, .slice none 0 0]) ?_ 1 _ rfl; (with_reducible repeat (first | refine zJ ?_ _ | refine zK ?_ | refine zI ?_ _)); refine blk_put (cs := #[.int .i64 0, .slice none 0 0]) ?_ 0 _ rfl; (with_reducible repeat (first | refine zJ ?_ _ | refine zK ?_ | refine zI ?_ _)); exact BK237.out) NB237_0.out (by simp)); replace HK := zA (KeepBut.trans (yC HK.out GW230.out GW237.out) hk (.inl rfl)); replace HB := zA (hb); replace HI0 := zA (hi); (try clear hb); (try clear hk); (try clear hi)) | ((with_reducible refine gate_callee (f := 79) rfl ?_); refine zO (some 15) Tryd.func79 #[.pointer (some ⟨g, 0, none⟩), .int .i64 4] ?_; (with_reducible refine (spec_l01Next.calls g s0_0 t239 t240 4 t241 t242 t243 w0 _ ?side1 ?side2 A17.out).mono ?_); (case side1 => exact Z101.uC HI0.out NB0_230.out NB0_237.out); (case side2 => exact zW HB.out (Z101.ge HI0.out) GE230.out GE237.out); rintro e w48 ⟨rfl, hi, hb, hk⟩; refine ⟨_, rfl, ?_⟩; replace BK230 := zA (KeepBut.blk hk (g' := gb230) (o := .cells #[.int .i64 0, .slice none 0 0] 26 (0, 0)) (zR BK230.out) NB230_0.out (by simp)); replace HO234 := zA (Kd.R_mono (Kd.R_keep (Z101.apart (show Z101 w0 _ g s0_0 t239 t240 from Z101.uC HI0.out NB0_230.out NB0_237.out) (zP HO234.out) (by decide)) hk (fun _ h => h.2)) (fun _ h => h.1)); replace BK237 := zA (KeepBut.blk hk (g' := gb237) (o := .cells #[.int .i64 t231, .slice Ao46 t232.length co46] 26 (0, 0)) (zR BK237.out) NB237_0.out (by simp)); replace HK := zA (KeepBut.trans (yC HK.out GW230.out GW237.out) hk (.inl rfl)); replace HB := zA (hb); replace HI0 := zA (hi); (try clear hb); (try clear hk); (try clear hi)))
   replace HO234 := zA (zH HO234.out)
   replace BK230 := zA (zK BK230.out)
   replace BK237 := zA (zK BK237.out)
   replace HI0 := zA (Z101.drew HI0.out)
   replace HK := zA (keep_drew HK.out)
   replace HB := zA (zD HB.out)
   refine start_ (n := 9) (S := fun w' => w'.cell? ⟨gb237, 0, none⟩ = some (.int .i64 t231) ∧ w'.cell? ⟨gb237, 1, none⟩ = some (.slice Ao46 t232.length co46)) (ds := [8]) #[false, false, false, false, false, false, false, false, false] (by kernel_rfl) rfl rfl ⟨(blk_cell BK237.out 0).trans rfl, (blk_cell BK237.out 1).trans rfl⟩ (fun hHeld => ?_); refine with_tabW spec_l02Spoil.tab11 spec_l02Spoil.bits11 (fun HT_ HW_ => ?_)
   generalize w48.drew = w49 at HO234 BK230 BK237 HI0 HK HB hHeld ⊢
   refine zp 0 (some 63) #[true, false, false, false, false, false, false, false, false] HT_.out ?_
   refine zp 2 (some 65) #[true, false, true, false, false, false, false, false, false] HT_.out ?_
   refine zc 1 (some 64) #[true, true, true, false, false, false, false, false, false] HT_.out HW_.out hHeld ?_
   refine one_ (i := 3) (N := some 66) #[true, true, true, true, false, false, false, false, false] rfl rfl (one_of HT_.out (by kernel_rfl)) (by decide) (fun K hK => ?_)
   refine Kd.R_lit_step (Kd.int .i64) _ 2 ?hg (N := 66) ?hd (xs := ([0, 1, 255] : List Int)) (inner := [.int .i64 0, .int .i64 1, .int .i64 255]) (ok := fun _ => True) (okp := fun _ => True) ?hr ?hp (fun _ hk => hk) trivial (Below.refl _ _) (Nat.le_refl _) (by simp) ?_; (case hd => rfl); (case hg => rfl); (case hr => first | (go_simp; done) | (go_simp; rfl)); (case hp => exact (Reps.one (show Kd.M (Kd.int .i64) _ _ _ 0 [.int .i64 0] from rfl) (Reps.one (show Kd.M (Kd.int .i64) _ _ _ 1 [.int .i64 1] from rfl) (Reps.one (show Kd.M (Kd.int .i64) _ _ _ 255 [.int .i64 255] from rfl) (Reps.none _ _)))))
   intro v251 w50 ho51 hb hg_ hnew_
   clear hg_ hnew_
   (first | rw [← Ny250.out] at ho51 | (simp only [Int.reduceToNat] at ho51; rw [← Ny250.out] at ho51))
   have HO252 := zA (Kd.R_lower (Kd.R_new' ho51 (Kd.R_lt (zP HO234.out))) (keep_size (w := w) (g := g) (row := none) (yC HK.out GW230.out GW237.out)))
   replace HO234 := zA (Kd.R_elder' (zP HO234.out) (Kd.R_base ho51) hb)
   replace BK230 := zA (blk_below (g := gb230) (o := .cells #[.int .i64 0, .slice none 0 0] 26 (0, 0)) (zR BK230.out) hb)
   replace BK237 := zA (blk_below (g := gb237) (o := .cells #[.int .i64 t231, .slice Ao46 t232.length co46] 26 (0, 0)) (zR BK237.out) hb)
   replace HK := zA (KeepBut.trans (yC HK.out GW230.out GW237.out) (KeepBut.of_below hb g none) (.inl rfl))
   replace HB := zA (below_step (zW HB.out (Z101.ge HI0.out) GE230.out GE237.out) hb)
   replace HI0 := zA (Z101.below (Z101.uC HI0.out NB0_230.out NB0_237.out) hb)
   clear hb ho51
   obtain ⟨Ao52, co52, eo52⟩ := Kd.R_slice HO252.out
   (first | subst eo52 | (injection eo52 with f1_ f2_ f3_; have f4_ := f1_.symm; have f5_ := f3_.symm; clear f1_ f2_ f3_; subst f4_; subst f5_))
   refine hK.out _ _ ⟨(blk_cell BK237.out 0).trans rfl, (blk_cell BK237.out 1).trans rfl⟩ (fun hHeld => ?_)
   clear hK K
   refine norm_ (a' := ?_) ?_ ?_
   rotate_left
   ·show Act.put _ (some 66) _ = _
    simp only [Act.put, zL, zM, zN, i64_w, i32_w]
    rfl
   refine one_ (i := 4) (N := some 67) #[true, true, true, true, true, false, false, false, false] rfl rfl (one_of HT_.out (by kernel_rfl)) (by decide) (fun K hK => ?_)
   refine goes_ Tryd.func81 (by kernel_rfl) rfl #[.pointer (some ⟨g, 0, none⟩), .slice Ao52 y250.length co52] (by rfl) rfl rfl (by (try simp only [List.map_toArray, List.map_cons, List.map_nil]); first | done | rfl | (simp only [List.length_drop, List.length_take]; rfl)) ?_
   with_reducible refine (spec_l01Pick.calls g s0_0 t242 t243 _ _ y250 t253 t254 t255 w0 _ ?side1 ?side2 ?side3 ?side4 ?side5 A38.out).mono ?_
   (case side1 => exact Z101.uC HI0.out NB0_230.out NB0_237.out)
   (case side2 => exact zW HB.out (Z101.ge HI0.out) GE230.out GE237.out)
   (case side3 => exact zS (Kd.R_reads' HO252.out).2.2)
   (case side4 => exact (Kd.R_reads' HO252.out).2.1)
   (case side5 => exact far_slice (Z101.own_ne HI0.out HO252.out (by decide)))
   rintro e w53 ⟨rfl, hi, hb, hk⟩
   refine ⟨_, rfl, ?_⟩
   replace BK230 := zA (KeepBut.blk hk (g' := gb230) (o := .cells #[.int .i64 0, .slice none 0 0] 26 (0, 0)) (zR BK230.out) NB230_0.out (by simp))
   replace HO234 := zA (Kd.R_mono (Kd.R_keep (Z101.apart (show Z101 w0 _ g s0_0 t242 t243 from Z101.uC HI0.out NB0_230.out NB0_237.out) (zP HO234.out) (by decide)) hk (fun _ h => h.2)) (fun _ h => h.1))
   replace BK237 := zA (KeepBut.blk hk (g' := gb237) (o := .cells #[.int .i64 t231, .slice Ao46 t232.length co46] 26 (0, 0)) (zR BK237.out) NB237_0.out (by simp))
   replace HO252 := zA (Kd.R_mono (Kd.R_keep (Z101.apart (show Z101 w0 _ g s0_0 t242 t243 from Z101.uC HI0.out NB0_230.out NB0_237.out) (zP HO252.out) (by decide)) hk (fun _ h => h.2)) (fun _ h => h.1))
   replace HK := zA (KeepBut.trans (yC HK.out GW230.out GW237.out) hk (.inl rfl))
   replace HB := zA (hb)
   replace HI0 := zA (hi)
   (try clear hb)
   (try clear hb2)
   (try clear hk)
   (try clear hi)
   (try clear hgw)
   refine hK.out _ _ ⟨(blk_cell BK237.out 0).trans rfl, (blk_cell BK237.out 1).trans rfl⟩ (fun hHeld => ?_)
   clear hK K
   refine norm_ (a' := ?_) ?_ ?_
   rotate_left
   ·show Act.put _ (some 67) _ = _
    simp only [Act.put, zL, zM, zN, i64_w, i32_w]
    rfl
   refine one_ (i := 5) (N := some 68) #[true, true, true, true, true, true, false, false, false] rfl rfl (one_of HT_.out (by kernel_rfl)) (by decide) (fun K hK => ?_)
   refine value_ (w1 := ?_) (v := ?_) (by rfl) rfl ?_ ?_
   rotate_left 2
   ·go_simp
    constructor
    ·rfl
    rfl
   refine hK.out _ _ ⟨(blk_cell (zI BK237.out _) 0).trans rfl, (blk_cell (zI BK237.out _) 1).trans rfl⟩ (fun hHeld => ?_)
   clear hK K
   refine norm_ (a' := ?_) ?_ ?_
   rotate_left
   ·show Act.put _ (some 68) _ = _
    simp only [Act.put, zL, zM, zN, i64_w, i32_w]
    rfl
   refine one_ (i := 6) (N := some 69) #[true, true, true, true, true, true, true, false, false] rfl rfl (one_of HT_.out (by kernel_rfl)) (by decide) (fun K hK => ?_)
   refine Kd.R_append_step (Kd.int .i64) w.heap.size (by rfl) (.tmp 64) (.tmp 68) 24 2 (.int .i64 0) 8 rfl Tryd.underlying24 info2 rfl (by decide) (by omega) (.slice Ao46 t232.length co46) t232 t253 [.int .i64 t253] (fun k_ => some k_ ≠ (.slice Ao52 y250.length co52 : Value).ownBlock) (fun _ => False) rfl rfl ?aP (fun _ hk => hk.elim) ?aF ?aO (Below.refl _ _) ?aS ?aL ?_
   (case aP => exact rfl)
   (case aF => exact (fun k_ hk => Kd.fresh' (Kd.R_lt (zP HO252.out)) k_ hk))
   (case aO => exact (by (with_reducible repeat (first | apply zF | apply zG | apply zH)); exact Kd.R_mono HO234.out (fun _ hk => hk.2)))
   (case aS => exact (keep_size (w := w) (g := g) (row := none) (yC HK.out GW230.out GW237.out)))
   (case aL => have := LMc39.out; omega)
   intro v257 w54 ho hb hg hat
   rw [← Ny256.out] at ho
   replace BK230 := zA (blk_grown (g := gb230) (o := .cells #[.int .i64 0, .slice none 0 0] 26 (0, 0)) (zR BK230.out) hg (Kd.R_ne HO234.out BK230.out (by decide)))
   replace BK237 := zA (blk_grown (g := gb237) (o := .cells #[.int .i64 t231, .slice Ao46 t232.length co46] 26 (0, 0)) (zR BK237.out) hg (Kd.R_ne HO234.out BK237.out (by decide)))
   replace HO252 := zA (Kd.R_after (ok := (fun _ => True)) (zP HO252.out) hg hat)
   replace HB := zA (below_weaken (zW HB.out (Z101.ge HI0.out) GE230.out GE237.out) HL.out hb)
   replace HI0 := zA (Z101.grown (Z101.uC HI0.out NB0_230.out NB0_237.out) hg (Z101.own_ne HI0.out HO234.out (by decide)))
   replace HK := zA (KeepBut.trans (yC HK.out GW230.out GW237.out) (KeepBut.of_grown hg g) (Kd.R_base2 HO234.out))
   have HO258 := zA (ho)
   clear HO234 ho hb hg hat
   obtain ⟨Ao55, co55, eo55⟩ := Kd.R_slice HO258.out
   (first | subst eo55 | (injection eo55 with f1_ f2_ f3_; have f4_ := f1_.symm; have f5_ := f3_.symm; clear f1_ f2_ f3_; subst f4_; subst f5_))
   refine hK.out _ _ ⟨(blk_cell BK237.out 0).trans rfl, (blk_cell BK237.out 1).trans rfl⟩ (fun hHeld => ?_)
   clear hK K
   refine norm_ (a' := ?_) ?_ ?_
   rotate_left
   ·show Act.put _ (some 69) _ = _
    simp only [Act.put, zL, zM, zN, i64_w, i32_w]
    rfl
   refine zp 7 (some 70) #[true, true, true, true, true, true, true, true, false] HT_.out ?_
   refine last_ (i := 8) (N := none) #[true, true, true, true, true, true, true, true, true] rfl rfl (one_of HT_.out (by kernel_rfl)) (by decide) (fun K hK => ?_)
   have hs56 : w54.cell? ⟨gb237, 1, none⟩ = some (.slice Ao46 t232.length co46) := (blk_cell BK237.out 1).trans rfl
   have hfs56 := blk_frozen BK237.out 1
   have hns56_0 := NB230_237.out
   have hms56_0 := NB237_230.out
   refine skip_ (w1 := ?_) (by rfl) rfl ?_ ?_
   rotate_left
   ·go_simp
    rfl
   refine hK.out _ _ ?_
   clear hK K
   refine done_ (done_of HT_.out (by kernel_rfl)) ?_
   have hcz57_0 : w54.cell? ⟨gb237, 0, none⟩ = some (.int .i64 t231) := (blk_cell BK237.out 0).trans rfl
   have hcz57_1 : w54.cell? ⟨gb237, 1, none⟩ = some (.slice Ao46 t232.length co46) := (blk_cell BK237.out 1).trans rfl
   have hfz57_0 := blk_frozen BK237.out 0
   have hfz57_1 := blk_frozen BK237.out 1
   have hnb58 := NB230_0.out
   have hnc58 := NB0_230.out
   have hcz59_0 : w54.cell? ⟨gb230, 0, none⟩ = some (.int .i64 0) := (blk_cell BK230.out 0).trans rfl
   have hcz59_1 : w54.cell? ⟨gb230, 1, none⟩ = some (.slice none 0 0) := (blk_cell BK230.out 1).trans rfl
   have hfz59_0 := blk_frozen BK230.out 0
   have hfz59_1 := blk_frozen BK230.out 1
   try go_wp2
   refine bodyPost_ret (results_cell_row rfl _ _ gb230 26 #[.int .i64 t231, .slice Ao55 y256.length co55] (0, 0) _ rfl (by (with_reducible repeat (first | refine zJ ?_ _ | refine zK ?_ | refine zI ?_ _)); refine blk_put (cs := #[.int .i64 t231, .slice none 0 0]) ?_ 1 _ rfl; (with_reducible repeat (first | refine zJ ?_ _ | refine zK ?_ | refine zI ?_ _)); refine blk_put (cs := #[.int .i64 0, .slice none 0 0]) ?_ 0 _ rfl; (with_reducible repeat (first | refine zJ ?_ _ | refine zK ?_ | refine zI ?_ _)); refine blk_far ?_ NB230_237.out _; (with_reducible repeat (first | refine zJ ?_ _ | refine zK ?_ | refine zI ?_ _)); exact BK230.out) Tryd.underlying26 rfl (by kernel_rfl)) rfl ?_
   exact ⟨_, zr, by (with_reducible repeat (first | apply zF | apply zG | apply zH)); exact Kd.R_mono (Kd.R_far (p := ⟨gb230, 1, none⟩) (Kd.R_far (p := ⟨gb230, 0, none⟩) (Kd.R_far (p := ⟨gb237, 1, none⟩) (Kd.R_types (Kd.R_types HO258.out BK237.out (by decide)) BK230.out (by decide)) (fun _ hk => hk.1.2) (.slice Ao55 y256.length co55)) (fun _ hk => hk.2) (.int .i64 t231)) (fun _ hk => hk.2) (.slice Ao55 y256.length co55)) (fun _ hk => trivial), by repeat (first | (with_reducible first | exact HI0.out | apply Z101.alloc | apply Z101.drewN | apply Z101.drew | apply Z101.set_1 | apply Z101.set_2 | refine Z101.far ?_ NB0_230.out _ | refine Z101.far ?_ NB0_237.out _) | exact HI0.out), zW HB.out (Z101.ge HI0.out) GE230.out GE237.out, by repeat (first | (with_reducible first | exact HK.out | apply KeepBut.set_ | apply keep_drewN | apply keep_drew | apply keep_alloc | refine keep_far ?_ GW230.out _ | refine keep_far ?_ GW237.out _) | exact HK.out)⟩
  rw [if_neg c39] at H
  exact absurd H (by simp)
 rw [if_neg c37] at H
 have c37b0 : (t241 == 1) = false := beq_eq_false_iff_ne.mpr c37
 have c37b1 : (t241 != 1) = true := bne_iff_ne.mpr c37
 by_cases c60 : t231 > 0
 ·rw [if_pos c60] at H
  have c60b0 : decide (0 < t231) = true := decide_eq_true c60
  clear c60
  obtain ⟨⟨t259, t260, t261⟩, A61, H⟩ := zb H
  try dsimp only at H
  by_cases c62 : 0 ≤ t259
  ·rw [if_pos c62] at H
   have c62b0 : decide (0 ≤ t259) = true := decide_eq_true c62
   clear c62
   by_cases c63 : t259 < (t232.length : Int)
   ·rw [if_pos c63] at H
    have c63b0 : decide (t259 < (t232.length : Int)) = true := decide_eq_true c63
    clear c63
    obtain ⟨t263, A64, H⟩ := zb H
    try dsimp only at H
    obtain ⟨t265, A65, H⟩ := zb H
    try dsimp only at H
    obtain ⟨t266, A66, H⟩ := zb H
    try dsimp only at H
    obtain ⟨⟨t267, t268, t269⟩, A67, H⟩ := zb H
    try dsimp only at H
    obtain ⟨y270, hy270⟩ : ∃ y_ : List Int, y_ = (([wrap64 ((rd t232 t259) - t263), Go.bits .or .i64 (rd t232 t259) t265, t267, (-1)] : List Int)) := ⟨_, rfl⟩
    replace H : ((spec_l01Pick.f s0_0 t268 t269 y270).bind fun bt273 => (some (t231, (t232.set (t259 : Int).toNat bt273.1), bt273.2.1, bt273.2.2))) = some (r1, r2, r3, r4) := zy hy270 H
    have Ny270 := zA hy270
    clear hy270
    obtain ⟨⟨t273, t274, t275⟩, A68, H⟩ := zb H
    try dsimp only at H
    obtain ⟨y276, hy276⟩ : ∃ y_ : List Int, y_ = (t232.set (t259 : Int).toNat t273) := ⟨_, rfl⟩
    replace H : (some (t231, y276, t274, t275)) = some (r1, r2, r3, r4) := zy hy276 H
    have Ny276 := zA hy276
    clear hy276
    simp only [Option.some.injEq, Prod.mk.injEq] at H
    obtain ⟨rfl, rfl, rfl, rfl⟩ := H
    go_enter Tryd.func98, Tryd.ntmps98
    try go_wp2_with (first | ((with_reducible refine gate_dst (N := 4) rfl ?_); refine box_event ?hg (N := 4) ?hd (cs := #[.int .i64 0, .slice none 0 0]) (t := 26) ?hr ?_; (case hd => rfl); (case hg => rfl); (case hr => first | (go_simp; done) | (go_simp; rfl)); intro gb230 hg w70 hbox hb; replace HB := zA (below_step (zT HB.out (Z101.ge HI0.out)) hb); have BK230 := zA (hbox); have GW230 := zA ((by rw [hg]; exact (keep_size (w := w) (g := g) (row := none) (yA HK.out)) : w.heap.size ≤ gb230)); have GE230 := zA ((Nat.le_trans HW0.out (by rw [hg]; exact (keep_size (w := w) (g := g) (row := none) (yA HK.out)) : w.heap.size ≤ gb230) : w0.heap.size ≤ gb230)); replace HK := zA (KeepBut.trans (yA HK.out) (KeepBut.of_below hb g none) (.inl rfl)); have NB0_230 := zA ((by rw [hg]; exact Nat.ne_of_lt (Z101.lt (show Z101 w0 _ g s0_0 s0_1 s0_2 from Z101.uA HI0.out)) : g ≠ gb230)); have NB230_0 := zA ((by rw [hg]; exact Nat.ne_of_gt (Z101.lt (show Z101 w0 _ g s0_0 s0_1 s0_2 from Z101.uA HI0.out)) : gb230 ≠ g)); replace HI0 := zA (Z101.below (Z101.uA HI0.out) hb); clear hb hbox hg) | ((with_reducible refine gate_callee (f := 97) rfl ?_); refine zO (some 9) Tryd.func97 #[.pointer (some ⟨g, 0, none⟩), .int .i64 a1] ?_; (with_reducible refine (spec_l02Draw.calls k g s0_0 s0_1 s0_2 a1 t231 t232 t235 t236 w0 _ ?side1 ?side2 A3.out).mono ?_); (case side1 => exact Z101.uB HI0.out NB0_230.out); (case side2 => exact zV HB.out (Z101.ge HI0.out) GE230.out); rintro e w71 ⟨v233, rfl, ho0, hi, hb, hk⟩; refine ⟨_, rfl, ?_⟩; replace BK230 := zA (KeepBut.blk hk (g' := gb230) (o := .cells #[.int .i64 0, .slice none 0 0] 26 (0, 0)) (zR BK230.out) NB230_0.out (by simp)); have HO234 := zA (Kd.R_lower ho0 (keep_size (w := w) (g := g) (row := none) (yB HK.out GW230.out))); replace HK := zA (KeepBut.trans (yB HK.out GW230.out) hk (.inl rfl)); replace HB := zA (hb); replace HI0 := zA (hi); (try clear hb); (try clear hk); (try clear hi); (try clear ho0)) | ((with_reducible refine gate_dst (N := 5) rfl ?_); refine box_event ?hg (N := 5) ?hd (cs := #[.int .i64 0, .slice none 0 0]) (t := 26) ?hr ?_; (case hd => rfl); (case hg => rfl); (case hr => first | (go_simp; done) | (go_simp; rfl)); intro gb237 hg w72 hbox hb; replace HO234 := zA (Kd.R_below (zP HO234.out) hb); replace HB := zA (below_step (zV HB.out (Z101.ge HI0.out) GE230.out) hb); have BK237 := zA (hbox); have GW237 := zA ((by rw [hg]; exact (keep_size (w := w) (g := g) (row := none) (yB HK.out GW230.out)) : w.heap.size ≤ gb237)); have GE237 := zA ((Nat.le_trans HW0.out (by rw [hg]; exact (keep_size (w := w) (g := g) (row := none) (yB HK.out GW230.out)) : w.heap.size ≤ gb237) : w0.heap.size ≤ gb237)); replace HK := zA (KeepBut.trans (yB HK.out GW230.out) (KeepBut.of_below hb g none) (.inl rfl)); have NB230_237 := zA ((by rw [hg]; exact Nat.ne_of_lt (blk_lt (g := gb230) (o := .cells #[.int .i64 0, .slice none 0 0] 26 (0, 0)) (zR BK230.out)) : gb230 ≠ gb237)); have NB237_230 := zA ((by rw [hg]; exact Nat.ne_of_gt (blk_lt (g := gb230) (o := .cells #[.int .i64 0, .slice none 0 0] 26 (0, 0)) (zR BK230.out)) : gb237 ≠ gb230)); replace BK230 := zA (blk_below (g := gb230) (o := .cells #[.int .i64 0, .slice none 0 0] 26 (0, 0)) (zR BK230.out) hb); have NB0_237 := zA ((by rw [hg]; exact Nat.ne_of_lt (Z101.lt (show Z101 w0 _ g s0_0 t235 t236 from Z101.uB HI0.out NB0_230.out)) : g ≠ gb237)); have NB237_0 := zA ((by rw [hg]; exact Nat.ne_of_gt (Z101.lt (show Z101 w0 _ g s0_0 t235 t236 from Z101.uB HI0.out NB0_230.out)) : gb237 ≠ g)); replace HI0 := zA (Z101.below (Z101.uB HI0.out NB0_230.out) hb); clear hb hbox hg; have hnb73 := NB237_230.out; have hnc73 := NB230_237.out; have hnb74 := NB237_0.out; have hnc74 := NB0_237.out; have hcz75_0 : w72.cell? ⟨gb237, 0, none⟩ = some (.int .i64 0) := (blk_cell BK237.out 0).trans rfl; have hcz75_1 : w72.cell? ⟨gb237, 1, none⟩ = some (.slice none 0 0) := (blk_cell BK237.out 1).trans rfl; have hfz75_0 := blk_frozen BK237.out 0; have hfz75_1 := blk_frozen BK237.out 1; obtain ⟨Ao76, co76, eo76⟩ := Kd.R_slice HO234.out; subst eo76) | ((with_reducible refine gate_callee (f := 79) rfl ?_); refine zO (some 11) Tryd.func79 #[.pointer (some ⟨g, 0, none⟩), .int .i64 14] ?_; (with_reducible refine (spec_l01Next.calls g s0_0 t235 t236 14 t238 t239 t240 w0 _ ?side1 ?side2 A4.out).mono ?_); (case side1 => exact Z101.uC HI0.out NB0_230.out NB0_237.out); (case side2 => exact zW HB.out (Z101.ge HI0.out) GE230.out GE237.out); rintro e w77 ⟨rfl, hi, hb, hk⟩; refine ⟨_, rfl, ?_⟩; replace BK230 := zA (KeepBut.blk hk (g' := gb230) (o := .cells #[.int .i64 0, .slice none 0 0] 26 (0, 0)) (by (with_reducible repeat (first | refine zJ ?_ _ | refine zK ?_ | refine zI ?_ _)); refine blk_far ?_ NB230_237.out _; (with_reducible repeat (first | refine zJ ?_ _ | refine zK ?_ | refine zI ?_ _)); refine blk_far ?_ NB230_237.out _; (with_reducible repeat (first | refine zJ ?_ _ | refine zK ?_ | refine zI ?_ _)); exact BK230.out) NB230_0.out (by simp)); replace HO234 := zA (Kd.R_mono (Kd.R_keep (Z101.apart (show Z101 w0 _ g s0_0 t235 t236 from Z101.uC HI0.out NB0_230.out NB0_237.out) (by (with_reducible repeat (first | apply zF | apply zG | apply zH)); exact (Kd.R_mono (Kd.R_far (p := ⟨gb237, 1, none⟩) (Kd.R_far (p := ⟨gb237, 0, none⟩) (Kd.R_types HO234.out BK237.out (by decide)) (fun _ hk => hk.2) (.int .i64 t231)) (fun _ hk => hk.2) (.slice Ao76 t232.length co76)) (fun _ h_ => h_.1))) (by decide)) hk (fun _ h => h.2)) (fun _ h => h.1)); replace BK237 := zA (KeepBut.blk hk (g' := gb237) (o := .cells #[.int .i64 t231, .slice Ao76 t232.length co76] 26 (0, 0)) (by (with_reducible repeat (first | refine zJ ?_ _ | refine zK ?_ | refine zI ?_ _)); refine blk_put (cs := #[.int .i64 t231, .slice none 0 0]) ?_ 1 _ rfl; (with_reducible repeat (first | refine zJ ?_ _ | refine zK ?_ | refine zI ?_ _)); refine blk_put (cs := #[.int .i64 0, .slice none 0 0]) ?_ 0 _ rfl; (with_reducible repeat (first | refine zJ ?_ _ | refine zK ?_ | refine zI ?_ _)); exact BK237.out) NB237_0.out (by simp)); replace HK := zA (KeepBut.trans (yC HK.out GW230.out GW237.out) hk (.inl rfl)); replace HB := zA (hb); replace HI0 := zA (hi); (try clear hb); (try clear hk); (try clear hi)) | ((with_reducible refine gate_callee (f := 79) rfl ?_); refine zO (some 15) Tryd.func79 #[.pointer (some ⟨g, 0, none⟩), .int .i64 4] ?_; (with_reducible refine (spec_l01Next.calls g s0_0 t239 t240 4 t241 t242 t243 w0 _ ?side1 ?side2 A17.out).mono ?_); (case side1 => exact Z101.uC HI0.out NB0_230.out NB0_237.out); (case side2 => exact zW HB.out (Z101.ge HI0.out) GE230.out GE237.out); rintro e w78 ⟨rfl, hi, hb, hk⟩; refine ⟨_, rfl, ?_⟩; replace BK230 := zA (KeepBut.blk hk (g' := gb230) (o := .cells #[.int .i64 0, .slice none 0 0] 26 (0, 0)) (zR BK230.out) NB230_0.out (by simp)); replace HO234 := zA (Kd.R_mono (Kd.R_keep (Z101.apart (show Z101 w0 _ g s0_0 t239 t240 from Z101.uC HI0.out NB0_230.out NB0_237.out) (zP HO234.out) (by decide)) hk (fun _ h => h.2)) (fun _ h => h.1)); replace BK237 := zA (KeepBut.blk hk (g' := gb237) (o := .cells #[.int .i64 t231, .slice Ao76 t232.length co76] 26 (0, 0)) (zR BK237.out) NB237_0.out (by simp)); replace HK := zA (KeepBut.trans (yC HK.out GW230.out GW237.out) hk (.inl rfl)); replace HB := zA (hb); replace HI0 := zA (hi); (try clear hb); (try clear hk); (try clear hi); have hcz79_0 : w78.cell? ⟨gb237, 0, none⟩ = some (.int .i64 t231) := (blk_cell BK237.out 0).trans rfl; have hcz79_1 : w78.cell? ⟨gb237, 1, none⟩ = some (.slice Ao76 t232.length co76) := (blk_cell BK237.out 1).trans rfl; have hfz79_0 := blk_frozen BK237.out 0; have hfz79_1 := blk_frozen BK237.out 1) | ((with_reducible refine gate_callee (f := 79) rfl ?_); refine zO (some 22) Tryd.func79 #[.pointer (some ⟨g, 0, none⟩), .int .i64 t231] ?_; (with_reducible refine (spec_l01Next.calls g s0_0 t242 t243 t231 t259 t260 t261 w0 _ ?side1 ?side2 A61.out).mono ?_); (case side1 => exact Z101.uC HI0.out NB0_230.out NB0_237.out); (case side2 => exact zW HB.out (Z101.ge HI0.out) GE230.out GE237.out); rintro e w80 ⟨rfl, hi, hb, hk⟩; refine ⟨_, rfl, ?_⟩; replace BK230 := zA (KeepBut.blk hk (g' := gb230) (o := .cells #[.int .i64 0, .slice none 0 0] 26 (0, 0)) (zR BK230.out) NB230_0.out (by simp)); replace HO234 := zA (Kd.R_mono (Kd.R_keep (Z101.apart (show Z101 w0 _ g s0_0 t242 t243 from Z101.uC HI0.out NB0_230.out NB0_237.out) (zP HO234.out) (by decide)) hk (fun _ h => h.2)) (fun _ h => h.1)); replace BK237 := zA (KeepBut.blk hk (g' := gb237) (o := .cells #[.int .i64 t231, .slice Ao76 t232.length co76] 26 (0, 0)) (zR BK237.out) NB237_0.out (by simp)); replace HK := zA (KeepBut.trans (yC HK.out GW230.out GW237.out) hk (.inl rfl)); replace HB := zA (hb); replace HI0 := zA (hi); (try clear hb); (try clear hk); (try clear hi)))
    replace HO234 := zA (zH HO234.out)
    replace BK230 := zA (zK BK230.out)
    replace BK237 := zA (zK BK237.out)
    replace HI0 := zA (Z101.drew HI0.out)
    replace HK := zA (keep_drew HK.out)
    replace HB := zA (zD HB.out)
    have p262 : 0 ≤ (t259 : Int) := zd
    have q262 : t259 < (t232.length : Int) := zd
    obtain ⟨ad262, e262, hx262_0⟩ := Kd.at_int (Kd.R_reads' HO234.out).2.2 t259 p262 q262
    cases e262
    replace p262 := eq_true p262
    replace q262 := eq_true q262
    have p264 : 0 ≤ (t259 : Int) := zd
    have q264 : t259 < (t232.length : Int) := zd
    obtain ⟨ad264, e264, hx264_0⟩ := Kd.at_int (Kd.R_reads' HO234.out).2.2 t259 p264 q264
    obtain rfl : ad262 = ad264 := (by injection e264)
    replace p264 := eq_true p264
    replace q264 := eq_true q264
    refine start_ (n := 30) (S := fun w' => w'.cell? ⟨gb237, 0, none⟩ = some (.int .i64 t231) ∧ w'.cell? ⟨gb237, 1, none⟩ = some (.slice (some ad262) t232.length co76) ∧ w'.cell? (ad262.add (t259).toNat) = some (.int .i64 (rd t232 t259)) ∧ w'.cell? (ad262.add (t259).toNat) = some (.int .i64 (rd t232 t259))) (ds := [29]) #[false, false, false, false, false, false, false, false, false, false, false, false, false, false, false, false, false, false, false, false, false, false, false, false, false, false, false, false, false, false] (by kernel_rfl) rfl rfl ⟨(blk_cell BK237.out 0).trans rfl, (blk_cell BK237.out 1).trans rfl, hx262_0, hx264_0⟩ (fun hHeld => ?_); refine with_tabW spec_l02Spoil.tab7 spec_l02Spoil.bits7 (fun HT_ HW_ => ?_)
    generalize w80.drew = w81 at HO234 BK230 BK237 HI0 HK HB hx262_0 hx264_0 hHeld ⊢
    refine zp 0 (some 23) #[true, false, false, false, false, false, false, false, false, false, false, false, false, false, false, false, false, false, false, false, false, false, false, false, false, false, false, false, false, false] HT_.out ?_
    refine zp 2 (some 25) #[true, false, true, false, false, false, false, false, false, false, false, false, false, false, false, false, false, false, false, false, false, false, false, false, false, false, false, false, false, false] HT_.out ?_
    refine zp 3 (some 26) #[true, false, true, true, false, false, false, false, false, false, false, false, false, false, false, false, false, false, false, false, false, false, false, false, false, false, false, false, false, false] HT_.out ?_
    refine zp 4 (some 27) #[true, false, true, true, true, false, false, false, false, false, false, false, false, false, false, false, false, false, false, false, false, false, false, false, false, false, false, false, false, false] HT_.out ?_
    refine zp 6 (some 29) #[true, false, true, true, true, false, true, false, false, false, false, false, false, false, false, false, false, false, false, false, false, false, false, false, false, false, false, false, false, false] HT_.out ?_
    refine zp 9 (some 32) #[true, false, true, true, true, false, true, false, false, true, false, false, false, false, false, false, false, false, false, false, false, false, false, false, false, false, false, false, false, false] HT_.out ?_
    refine zp 12 (some 35) #[true, false, true, true, true, false, true, false, false, true, false, false, true, false, false, false, false, false, false, false, false, false, false, false, false, false, false, false, false, false] HT_.out ?_
    refine zp 14 (some 37) #[true, false, true, true, true, false, true, false, false, true, false, false, true, false, true, false, false, false, false, false, false, false, false, false, false, false, false, false, false, false] HT_.out ?_
    refine zp 17 (some 40) #[true, false, true, true, true, false, true, false, false, true, false, false, true, false, true, false, false, true, false, false, false, false, false, false, false, false, false, false, false, false] HT_.out ?_
    refine zp 21 (some 44) #[true, false, true, true, true, false, true, false, false, true, false, false, true, false, true, false, false, true, false, false, false, true, false, false, false, false, false, false, false, false] HT_.out ?_
    refine zp 22 (some 45) #[true, false, true, true, true, false, true, false, false, true, false, false, true, false, true, false, false, true, false, false, false, true, true, false, false, false, false, false, false, false] HT_.out ?_
    refine zf 1 (some 24) #[true, true, true, true, true, false, true, false, false, true, false, false, true, false, true, false, false, true, false, false, false, true, true, false, false, false, false, false, false, false] HT_.out HW_.out hHeld ?_
    refine zf 5 (some 28) #[true, true, true, true, true, true, true, false, false, true, false, false, true, false, true, false, false, true, false, false, false, true, true, false, false, false, false, false, false, false] HT_.out HW_.out hHeld ?_
    refine zp 7 (some 30) #[true, true, true, true, true, true, true, true, false, true, false, false, true, false, true, false, false, true, false, false, false, true, true, false, false, false, false, false, false, false] HT_.out ?_
    refine zf 8 (some 31) #[true, true, true, true, true, true, true, true, true, true, false, false, true, false, true, false, false, true, false, false, false, true, true, false, false, false, false, false, false, false] HT_.out HW_.out hHeld ?_
    refine zf 13 (some 36) #[true, true, true, true, true, true, true, true, true, true, false, false, true, true, true, false, false, true, false, false, false, true, true, false, false, false, false, false, false, false] HT_.out HW_.out hHeld ?_
    refine zp 15 (some 38) #[true, true, true, true, true, true, true, true, true, true, false, false, true, true, true, true, false, true, false, false, false, true, true, false, false, false, false, false, false, false] HT_.out ?_
    refine zf 16 (some 39) #[true, true, true, true, true, true, true, true, true, true, false, false, true, true, true, true, true, true, false, false, false, true, true, false, false, false, false, false, false, false] HT_.out HW_.out hHeld ?_
    refine zf 18 (some 41) #[true, true, true, true, true, true, true, true, true, true, false, false, true, true, true, true, true, true, true, false, false, true, true, false, false, false, false, false, false, false] HT_.out HW_.out hHeld ?_
    refine zf 23 (some 46) #[true, true, true, true, true, true, true, true, true, true, false, false, true, true, true, true, true, true, true, false, false, true, true, true, false, false, false, false, false, false] HT_.out HW_.out hHeld ?_
    refine one_ (i := 10) (N := some 33) #[true, true, true, true, true, true, true, true, true, true, true, false, true, true, true, true, true, true, true, false, false, true, true, true, false, false, false, false, false, false] rfl rfl (one_of HT_.out (by kernel_rfl)) (by decide) (fun K hK => ?_)
    refine goes_ Tryd.func54 (by kernel_rfl) rfl #[.int .i64 t259] (by rfl) rfl rfl (by (try simp only [List.map_toArray, List.map_cons, List.map_nil]); first | done | rfl | (simp only [List.length_drop, List.length_take]; rfl)) ?_
    with_reducible refine (spec_l01One.calls t259 t263 _ A64.out).mono ?_
    rintro e w' ⟨rfl, ⟨nd, rfl⟩⟩
    refine ⟨_, rfl, ?_⟩
    refine hK.out _ _ ⟨(blk_cell BK237.out 0).trans rfl, (blk_cell BK237.out 1).trans rfl, hHeld.2.2.1, hHeld.2.2.2⟩ (fun hHeld => ?_)
    clear hK K
    refine norm_ (a' := ?_) ?_ ?_
    rotate_left
    ·show Act.put _ (some 33) _ = _
     simp only [Act.put, zL, zM, zN, i64_w, i32_w]
     rfl
    refine zp 11 (some 34) #[true, true, true, true, true, true, true, true, true, true, true, true, true, true, true, true, true, true, true, false, false, true, true, true, false, false, false, false, false, false] HT_.out ?_
    refine one_ (i := 19) (N := some 42) #[true, true, true, true, true, true, true, true, true, true, true, true, true, true, true, true, true, true, true, true, false, true, true, true, false, false, false, false, false, false] rfl rfl (one_of HT_.out (by kernel_rfl)) (by decide) (fun K hK => ?_)
    refine goes_ Tryd.func54 (by kernel_rfl) rfl #[.int .i64 t231] (by rfl) rfl rfl (by (try simp only [List.map_toArray, List.map_cons, List.map_nil]); first | done | rfl | (simp only [List.length_drop, List.length_take]; rfl)) ?_
    with_reducible refine (spec_l01One.calls t231 t265 _ A65.out).mono ?_
    rintro e w' ⟨rfl, ⟨nd, rfl⟩⟩
    refine ⟨_, rfl, ?_⟩
    refine hK.out _ _ ⟨(blk_cell BK237.out 0).trans rfl, (blk_cell BK237.out 1).trans rfl, hHeld.2.2.1, hHeld.2.2.2⟩ (fun hHeld => ?_)
    clear hK K
    refine norm_ (a' := ?_) ?_ ?_
    rotate_left
    ·show Act.put _ (some 42) _ = _
     simp only [Act.put, zL, zM, zN, i64_w, i32_w]
     rfl
    refine zp 20 (some 43) #[true, true, true, true, true, true, true, true, true, true, true, true, true, true, true, true, true, true, true, true, true, true, true, true, false, false, false, false, false, false] HT_.out ?_
    refine one_ (i := 24) (N := some 47) #[true, true, true, true, true, true, true, true, true, true, true, true, true, true, true, true, true, true, true, true, true, true, true, true, true, false, false, false, false, false] rfl rfl (one_of HT_.out (by kernel_rfl)) (by decide) (fun K hK => ?_)
    refine goes_ Tryd.func54 (by kernel_rfl) rfl #[.int .i64 t231] (by rfl) rfl rfl (by (try simp only [List.map_toArray, List.map_cons, List.map_nil]); first | done | rfl | (simp only [List.length_drop, List.length_take]; rfl)) ?_
    with_reducible refine (spec_l01One.calls t231 t266 _ A66.out).mono ?_
    rintro e w' ⟨rfl, ⟨nd, rfl⟩⟩
    refine ⟨_, rfl, ?_⟩
    refine hK.out _ _ ⟨(blk_cell BK237.out 0).trans rfl, (blk_cell BK237.out 1).trans rfl, hHeld.2.2.1, hHeld.2.2.2⟩ (fun hHeld => ?_)
    clear hK K
    refine norm_ (a' := ?_) ?_ ?_
    rotate_left
    ·show Act.put _ (some 47) _ = _
     simp only [Act.put, zL, zM, zN, i64_w, i32_w]
     rfl
    refine one_ (i := 25) (N := some 48) #[true, true, true, true, true, true, true, true, true, true, true, true, true, true, true, true, true, true, true, true, true, true, true, true, true, true, false, false, false, false] rfl rfl (one_of HT_.out (by kernel_rfl)) (by decide) (fun K hK => ?_)
    refine goes_ Tryd.func79 (by kernel_rfl) rfl #[.pointer (some ⟨g, 0, none⟩), .int .i64 t266] (by rfl) rfl rfl (by (try simp only [List.map_toArray, List.map_cons, List.map_nil]); first | done | rfl | (simp only [List.length_drop, List.length_take]; rfl)) ?_
    with_reducible refine (spec_l01Next.calls g s0_0 t260 t261 t266 t267 t268 t269 w0 _ ?side1 ?side2 A67.out).mono ?_
    (case side1 => exact Z101.uC HI0.out NB0_230.out NB0_237.out)
    (case side2 => exact zW HB.out (Z101.ge HI0.out) GE230.out GE237.out)
    rintro e w82 ⟨rfl, hi, hb, hk⟩
    have HS2_ := keep_cell hk (hHeld.2.2.1) (by first | (rw [add_block]; exact Kd.own_blk (Z101.own_ne HI0.out HO234.out (by decide))) | (show (Addr.add _ _).block ≠ _; rw [add_block]; exact Kd.own_blk (Z101.own_ne HI0.out HO234.out (by decide))) | exact Kd.own_blk (Z101.own_ne HI0.out HO234.out (by decide)))
    have HS3_ := keep_cell hk (hHeld.2.2.2) (by first | (rw [add_block]; exact Kd.own_blk (Z101.own_ne HI0.out HO234.out (by decide))) | (show (Addr.add _ _).block ≠ _; rw [add_block]; exact Kd.own_blk (Z101.own_ne HI0.out HO234.out (by decide))) | exact Kd.own_blk (Z101.own_ne HI0.out HO234.out (by decide)))
    refine ⟨_, rfl, ?_⟩
    replace BK230 := zA (KeepBut.blk hk (g' := gb230) (o := .cells #[.int .i64 0, .slice none 0 0] 26 (0, 0)) (zR BK230.out) NB230_0.out (by simp))
    replace HO234 := zA (Kd.R_mono (Kd.R_keep (Z101.apart (show Z101 w0 _ g s0_0 t260 t261 from Z101.uC HI0.out NB0_230.out NB0_237.out) (zP HO234.out) (by decide)) hk (fun _ h => h.2)) (fun _ h => h.1))
    replace BK237 := zA (KeepBut.blk hk (g' := gb237) (o := .cells #[.int .i64 t231, .slice (some ad262) t232.length co76] 26 (0, 0)) (zR BK237.out) NB237_0.out (by simp))
    replace HK := zA (KeepBut.trans (yC HK.out GW230.out GW237.out) hk (.inl rfl))
    replace HB := zA (hb)
    replace HI0 := zA (hi)
    (try clear hb)
    (try clear hb2)
    (try clear hk)
    (try clear hi)
    (try clear hgw)
    refine hK.out _ _ ⟨(blk_cell BK237.out 0).trans rfl, (blk_cell BK237.out 1).trans rfl, HS2_, HS3_⟩ (fun hHeld => ?_)
    clear hK K
    refine norm_ (a' := ?_) ?_ ?_
    rotate_left
    ·show Act.put _ (some 48) _ = _
     simp only [Act.put, zL, zM, zN, i64_w, i32_w]
     rfl
    refine one_ (i := 26) (N := some 49) #[true, true, true, true, true, true, true, true, true, true, true, true, true, true, true, true, true, true, true, true, true, true, true, true, true, true, true, false, false, false] rfl rfl (one_of HT_.out (by kernel_rfl)) (by decide) (fun K hK => ?_)
    refine Kd.R_lit_step (Kd.int .i64) _ 2 ?hg (N := 49) ?hd (xs := ([wrap64 ((rd t232 t259) - t263), Go.bits .or .i64 (rd t232 t259) t265, t267, (-1)] : List Int)) (inner := [.int .i64 (wrap64 ((rd t232 t259) - t263)), .int .i64 (Go.bits .or .i64 (rd t232 t259) t265), .int .i64 t267, .int .i64 (-1)]) (ok := fun _ => True) (okp := fun _ => True) ?hr ?hp (fun _ hk => hk) trivial (Below.refl _ _) (Nat.le_refl _) (by simp) ?_; (case hd => rfl); (case hg => rfl); (case hr => first | (go_simp; done) | (go_simp; rfl)); (case hp => exact (Reps.one (show Kd.M (Kd.int .i64) _ _ _ (wrap64 ((rd t232 t259) - t263)) [.int .i64 (wrap64 ((rd t232 t259) - t263))] from rfl) (Reps.one (show Kd.M (Kd.int .i64) _ _ _ (Go.bits .or .i64 (rd t232 t259) t265) [.int .i64 (Go.bits .or .i64 (rd t232 t259) t265)] from rfl) (Reps.one (show Kd.M (Kd.int .i64) _ _ _ t267 [.int .i64 t267] from rfl) (Reps.one (show Kd.M (Kd.int .i64) _ _ _ (-1) [.int .i64 (-1)] from rfl) (Reps.none _ _))))))
    intro v271 w83 ho84 hb hg_ hnew_
    have HS2_ := (hb.cell (World.block_lt_of_cell? _ _ (hHeld.2.2.1))).trans (hHeld.2.2.1)
    have HS3_ := (hb.cell (World.block_lt_of_cell? _ _ (hHeld.2.2.2))).trans (hHeld.2.2.2)
    clear hg_ hnew_
    (first | rw [← Ny270.out] at ho84 | (simp only [Int.reduceToNat] at ho84; rw [← Ny270.out] at ho84))
    have HO272 := zA (Kd.R_lower (Kd.R_new' ho84 (Kd.R_lt (zP HO234.out))) (keep_size (w := w) (g := g) (row := none) (yC HK.out GW230.out GW237.out)))
    replace HO234 := zA (Kd.R_elder' (zP HO234.out) (Kd.R_base ho84) hb)
    replace BK230 := zA (blk_below (g := gb230) (o := .cells #[.int .i64 0, .slice none 0 0] 26 (0, 0)) (zR BK230.out) hb)
    replace BK237 := zA (blk_below (g := gb237) (o := .cells #[.int .i64 t231, .slice (some ad262) t232.length co76] 26 (0, 0)) (zR BK237.out) hb)
    replace HK := zA (KeepBut.trans (yC HK.out GW230.out GW237.out) (KeepBut.of_below hb g none) (.inl rfl))
    replace HB := zA (below_step (zW HB.out (Z101.ge HI0.out) GE230.out GE237.out) hb)
    replace HI0 := zA (Z101.below (Z101.uC HI0.out NB0_230.out NB0_237.out) hb)
    clear hb ho84
    obtain ⟨Ao85, co85, eo85⟩ := Kd.R_slice HO272.out
    (first | subst eo85 | (injection eo85 with f1_ f2_ f3_; have f4_ := f1_.symm; have f5_ := f3_.symm; clear f1_ f2_ f3_; subst f4_; subst f5_))
    refine hK.out _ _ ⟨(blk_cell BK237.out 0).trans rfl, (blk_cell BK237.out 1).trans rfl, HS2_, HS3_⟩ (fun hHeld => ?_)
    clear hK K
    refine norm_ (a' := ?_) ?_ ?_
    rotate_left
    ·show Act.put _ (some 49) _ = _
     simp only [Act.put, zL, zM, zN, i64_w, i32_w]
     rfl
    refine one_ (i := 27) (N := some 50) #[true, true, true, true, true, true, true, true, true, true, true, true, true, true, true, true, true, true, true, true, true, true, true, true, true, true, true, true, false, false] rfl rfl (one_of HT_.out (by kernel_rfl)) (by decide) (fun K hK => ?_)
    refine goes_ Tryd.func81 (by kernel_rfl) rfl #[.pointer (some ⟨g, 0, none⟩), .slice Ao85 y270.length co85] (by rfl) rfl rfl (by (try simp only [List.map_toArray, List.map_cons, List.map_nil]); first | done | rfl | (simp only [List.length_drop, List.length_take]; rfl)) ?_
    with_reducible refine (spec_l01Pick.calls g s0_0 t268 t269 _ _ y270 t273 t274 t275 w0 _ ?side1 ?side2 ?side3 ?side4 ?side5 A68.out).mono ?_
    (case side1 => exact Z101.uC HI0.out NB0_230.out NB0_237.out)
    (case side2 => exact zW HB.out (Z101.ge HI0.out) GE230.out GE237.out)
    (case side3 => exact zS (Kd.R_reads' HO272.out).2.2)
    (case side4 => exact (Kd.R_reads' HO272.out).2.1)
    (case side5 => exact far_slice (Z101.own_ne HI0.out HO272.out (by decide)))
    rintro e w86 ⟨rfl, hi, hb, hk⟩
    have HS2_ := keep_cell hk (hHeld.2.2.1) (by first | (rw [add_block]; exact Kd.own_blk (Z101.own_ne HI0.out HO234.out (by decide))) | (show (Addr.add _ _).block ≠ _; rw [add_block]; exact Kd.own_blk (Z101.own_ne HI0.out HO234.out (by decide))) | exact Kd.own_blk (Z101.own_ne HI0.out HO234.out (by decide)))
    have HS3_ := keep_cell hk (hHeld.2.2.2) (by first | (rw [add_block]; exact Kd.own_blk (Z101.own_ne HI0.out HO234.out (by decide))) | (show (Addr.add _ _).block ≠ _; rw [add_block]; exact Kd.own_blk (Z101.own_ne HI0.out HO234.out (by decide))) | exact Kd.own_blk (Z101.own_ne HI0.out HO234.out (by decide)))
    refine ⟨_, rfl, ?_⟩
    replace BK230 := zA (KeepBut.blk hk (g' := gb230) (o := .cells #[.int .i64 0, .slice none 0 0] 26 (0, 0)) (zR BK230.out) NB230_0.out (by simp))
    replace HO234 := zA (Kd.R_mono (Kd.R_keep (Z101.apart (show Z101 w0 _ g s0_0 t268 t269 from Z101.uC HI0.out NB0_230.out NB0_237.out) (zP HO234.out) (by decide)) hk (fun _ h => h.2)) (fun _ h => h.1))
    replace BK237 := zA (KeepBut.blk hk (g' := gb237) (o := .cells #[.int .i64 t231, .slice (some ad262) t232.length co76] 26 (0, 0)) (zR BK237.out) NB237_0.out (by simp))
    replace HO272 := zA (Kd.R_mono (Kd.R_keep (Z101.apart (show Z101 w0 _ g s0_0 t268 t269 from Z101.uC HI0.out NB0_230.out NB0_237.out) (zP HO272.out) (by decide)) hk (fun _ h => h.2)) (fun _ h => h.1))
    replace HK := zA (KeepBut.trans (yC HK.out GW230.out GW237.out) hk (.inl rfl))
    replace HB := zA (hb)
    replace HI0 := zA (hi)
    (try clear hb)
    (try clear hb2)
    (try clear hk)
    (try clear hi)
    (try clear hgw)
    have p69 : 0 ≤ (t259 : Int) := zd
    have q69 : (t259 : Int) < ((t232.length : Int) : Int) := zd
    obtain ⟨go69, co69, eo69, gb69, gl69, cl69, HG69⟩ := Kd.R_form HO234.out (by omega)
    (first | cases eo69 | (injection eo69 with ea_ en_ ec_; (first | subst ea_ | (injection ea_ with ea_; subst ea_)); subst ec_; clear en_))
    have GB69 := zA gb69
    have GG69 := zA HG69
    clear gb69 gl69 HG69
    (first | simp only [add_plain] at hx262_0 | skip)
    (first | simp only [add_plain] at hx264_0 | skip)
    obtain ⟨hx69_0, hf69_0⟩ := Kd.R_celln 0 HO234.out (t259 : Int) p69 q69
    replace p69 := eq_true p69
    replace q69 := eq_true q69
    have HN0_go69 := zA (show g ≠ go69 from by have h_ := Z101.own_ne HI0.out HO234.out (by decide); intro e_; exact h_ (by rw [e_]; rfl))
    have HP87 := Kd.R_putn HO234.out (t259 : Int) t273
    rw [← Ny276.out] at HP87
    have HQ87 := zA HP87
    clear HP87
    refine hK.out _ _ ⟨(blk_cell BK237.out 0).trans rfl, (blk_cell BK237.out 1).trans rfl, HS2_, HS3_⟩ (fun hHeld => ?_)
    clear hK K
    refine norm_ (a' := ?_) ?_ ?_
    rotate_left
    ·show Act.put _ (some 50) _ = _
     simp only [Act.put, zL, zM, zN, i64_w, i32_w]
     rfl
    refine zp 28 (some 51) #[true, true, true, true, true, true, true, true, true, true, true, true, true, true, true, true, true, true, true, true, true, true, true, true, true, true, true, true, true, false] HT_.out ?_
    refine last_ (i := 29) (N := none) #[true, true, true, true, true, true, true, true, true, true, true, true, true, true, true, true, true, true, true, true, true, true, true, true, true, true, true, true, true, true] rfl rfl (one_of HT_.out (by kernel_rfl)) (by decide) (fun K hK => ?_)
    refine skip_ (w1 := ?_) (by rfl) rfl ?_ ?_
    rotate_left
    ·go_simp
     rfl
    refine hK.out _ _ ?_
    clear hK K
    refine done_ (done_of HT_.out (by kernel_rfl)) ?_
    have n0_ : Aside0 (Kd.R (Kd.int .i64) 2 (w86.setCell ⟨go69, (t259 : Int).toNat, none⟩ (.int .i64 t273)) w.heap.size (fun k_ => some k_ ≠ (.slice Ao85 y270.length co85 : Value).ownBlock) (.slice (some ⟨go69, 0, none⟩) t232.length co76) y276) := ⟨by (with_reducible repeat (first | apply zF | apply zG | apply zH)); exact Kd.R_mono HQ87.out (fun _ hk => hk.2)⟩
    have n1_ : Aside0 (Kd.R (Kd.int .i64) 2 (w86.setCell ⟨go69, (t259 : Int).toNat, none⟩ (.int .i64 t273)) w.heap.size (fun k_ => some k_ ≠ (.slice (some ⟨go69, 0, none⟩) t232.length co76 : Value).ownBlock) (.slice Ao85 y270.length co85) y270) := ⟨by (with_reducible repeat (first | apply zF | apply zG | apply zH)); exact Kd.R_mono (Kd.R_far (p := ⟨go69, (t259 : Int).toNat, none⟩) (Kd.R_mono HO272.out (fun k_ hk => (⟨hk, fun e_ => hk.2 (by rw [e_]; rfl)⟩ : _ ∧ k_ ≠ go69))) (fun _ hk => hk.2) (.int .i64 t273)) (fun _ hk => hk.1.2)⟩
    have n2_ : Aside0 ((w86.setCell ⟨go69, (t259 : Int).toNat, none⟩ (.int .i64 t273)).heap[gb230]? = some (.cells #[.int .i64 0, .slice none 0 0] 26 (0, 0))) := ⟨by (with_reducible repeat (first | refine zJ ?_ _ | refine zK ?_ | refine zI ?_ _)); refine blk_far ?_ (by have h_ := Kd.R_ne HO234.out BK230.out (by decide); intro e_; exact h_ (by rw [e_]; rfl)) _; (with_reducible repeat (first | refine zJ ?_ _ | refine zK ?_ | refine zI ?_ _)); exact BK230.out⟩
    have n3_ : Aside0 ((w86.setCell ⟨go69, (t259 : Int).toNat, none⟩ (.int .i64 t273)).heap[gb237]? = some (.cells #[.int .i64 t231, .slice (some ⟨go69, 0, none⟩) t232.length co76] 26 (0, 0))) := ⟨by (with_reducible repeat (first | refine zJ ?_ _ | refine zK ?_ | refine zI ?_ _)); refine blk_far ?_ (by have h_ := Kd.R_ne HO234.out BK237.out (by decide); intro e_; exact h_ (by rw [e_]; rfl)) _; (with_reducible repeat (first | refine zJ ?_ _ | refine zK ?_ | refine zI ?_ _)); exact BK237.out⟩
    have n4_ : Aside0 (Z101 w0 (w86.setCell ⟨go69, (t259 : Int).toNat, none⟩ (.int .i64 t273)) g s0_0 t274 t275) := ⟨by repeat (first | (with_reducible first | exact HI0.out | apply Z101.alloc | apply Z101.drewN | apply Z101.drew | apply Z101.set_1 | apply Z101.set_2 | refine Z101.far ?_ HN0_go69.out _ | refine Z101.far ?_ NB0_230.out _ | refine Z101.far ?_ NB0_237.out _) | exact HI0.out)⟩
    have n5_ : Aside0 (KeepBut w (w86.setCell ⟨go69, (t259 : Int).toNat, none⟩ (.int .i64 t273)) g none) := ⟨by repeat (first | (with_reducible first | exact HK.out | apply KeepBut.set_ | apply keep_drewN | apply keep_drew | apply keep_alloc | refine keep_far ?_ GB69.out _ | refine keep_far ?_ GW230.out _ | refine keep_far ?_ GW237.out _) | exact HK.out)⟩
    have n6_ : Aside0 (Below w0.heap.size w0 (w86.setCell ⟨go69, (t259 : Int).toNat, none⟩ (.int .i64 t273))) := ⟨by repeat (first | (with_reducible first | exact HB.out | apply zB | apply zC | apply zD | refine zE ?_ (Nat.le_trans HL.out GB69.out) | refine zE ?_ (Z101.ge HI0.out) | refine zE ?_ GE230.out | refine zE ?_ GE237.out) | exact HB.out)⟩
    (try clear HO234)
    (try clear HO272)
    (try clear BK230)
    (try clear BK237)
    (try clear HI0)
    (try clear HK)
    (try clear HB)
    generalize (w86.setCell ⟨go69, (t259 : Int).toNat, none⟩ (.int .i64 t273)) = w88 at n0_ n1_ n2_ n3_ n4_ n5_ n6_ ⊢
    have HO234 := n0_
    have HO272 := n1_
    have BK230 := n2_
    have BK237 := n3_
    have HI0 := n4_
    have HK := n5_
    have HB := n6_
    clear n0_ n1_ n2_ n3_ n4_ n5_ n6_
    have hcz89_0 : w88.cell? ⟨gb237, 0, none⟩ = some (.int .i64 t231) := (blk_cell BK237.out 0).trans rfl
    have hcz89_1 : w88.cell? ⟨gb237, 1, none⟩ = some (.slice (some ⟨go69, 0, none⟩) t232.length co76) := (blk_cell BK237.out 1).trans rfl
    have hfz89_0 := blk_frozen BK237.out 0
    have hfz89_1 := blk_frozen BK237.out 1
    have hnb90 := NB230_0.out
    have hnc90 := NB0_230.out
    have hcz91_0 : w88.cell? ⟨gb230, 0, none⟩ = some (.int .i64 0) := (blk_cell BK230.out 0).trans rfl
    have hcz91_1 : w88.cell? ⟨gb230, 1, none⟩ = some (.slice none 0 0) := (blk_cell BK230.out 1).trans rfl
    have hfz91_0 := blk_frozen BK230.out 0
    have hfz91_1 := blk_frozen BK230.out 1
    try go_wp2
    refine bodyPost_ret (results_cell_row rfl _ _ gb230 26 #[.int .i64 t231, .slice (some ⟨go69, 0, none⟩) t232.length co76] (0, 0) _ rfl (by (with_reducible repeat (first | refine zJ ?_ _ | refine zK ?_ | refine zI ?_ _)); refine blk_put (cs := #[.int .i64 t231, .slice none 0 0]) ?_ 1 _ rfl; (with_reducible repeat (first | refine zJ ?_ _ | refine zK ?_ | refine zI ?_ _)); refine blk_put (cs := #[.int .i64 0, .slice none 0 0]) ?_ 0 _ rfl; (with_reducible repeat (first | refine zJ ?_ _ | refine zK ?_ | refine zI ?_ _)); exact BK230.out) Tryd.underlying26 rfl (by kernel_rfl)) rfl ?_
    exact ⟨_, zr, by (with_reducible repeat (first | apply zF | apply zG | apply zH)); exact Kd.R_mono (Kd.R_far (p := ⟨gb230, 1, none⟩) (Kd.R_far (p := ⟨gb230, 0, none⟩) (Kd.R_types HO234.out BK230.out (by decide)) (fun _ hk => hk.2) (.int .i64 t231)) (fun _ hk => hk.2) (.slice (some ⟨go69, 0, none⟩) t232.length co76)) (fun _ hk => trivial), by repeat (first | (with_reducible first | exact HI0.out | apply Z101.alloc | apply Z101.drewN | apply Z101.drew | apply Z101.set_1 | apply Z101.set_2 | refine Z101.far ?_ NB0_230.out _ | refine Z101.far ?_ NB0_237.out _) | exact HI0.out), zW HB.out (Z101.ge HI0.out) GE230.out GE237.out, by repeat (first | (with_reducible first | exact HK.out | apply KeepBut.set_ | apply keep_drewN | apply keep_drew | apply keep_alloc | refine keep_far ?_ GW230.out _ | refine keep_far ?_ GW237.out _) | exact HK.out)⟩
   rw [if_neg c63] at H
   exact absurd H (by simp)
  rw [if_neg c62] at H
  exact absurd H (by simp)
 rw [if_neg c60] at H
 have c60b0 : decide (0 < t231) = false := decide_eq_false c60
 clear c60
 simp only [Option.some.injEq, Prod.mk.injEq] at H
 obtain ⟨rfl, rfl, rfl, rfl⟩ := H
 go_enter Tryd.func98, Tryd.ntmps98
 go_wp2_with (first | ((with_reducible refine gate_dst (N := 4) rfl ?_); refine box_event ?hg (N := 4) ?hd (cs := #[.int .i64 0, .slice none 0 0]) (t := 26) ?hr ?_; (case hd => rfl); (case hg => rfl); (case hr => first | (go_simp; done) | (go_simp; rfl)); intro gb230 hg w92 hbox hb; replace HB := zA (below_step (zT HB.out (Z101.ge HI0.out)) hb); have BK230 := zA (hbox); have GW230 := zA ((by rw [hg]; exact (keep_size (w := w) (g := g) (row := none) (yA HK.out)) : w.heap.size ≤ gb230)); have GE230 := zA ((Nat.le_trans HW0.out (by rw [hg]; exact (keep_size (w := w) (g := g) (row := none) (yA HK.out)) : w.heap.size ≤ gb230) : w0.heap.size ≤ gb230)); replace HK := zA (KeepBut.trans (yA HK.out) (KeepBut.of_below hb g none) (.inl rfl)); have NB0_230 := zA ((by rw [hg]; exact Nat.ne_of_lt (Z101.lt (show Z101 w0 _ g s0_0 s0_1 s0_2 from Z101.uA HI0.out)) : g ≠ gb230)); have NB230_0 := zA ((by rw [hg]; exact Nat.ne_of_gt (Z101.lt (show Z101 w0 _ g s0_0 s0_1 s0_2 from Z101.uA HI0.out)) : gb230 ≠ g)); replace HI0 := zA (Z101.below (Z101.uA HI0.out) hb); clear hb hbox hg) | ((with_reducible refine gate_callee (f := 97) rfl ?_); refine zO (some 9) Tryd.func97 #[.pointer (some ⟨g, 0, none⟩), .int .i64 a1] ?_; (with_reducible refine (spec_l02Draw.calls k g s0_0 s0_1 s0_2 a1 t231 t232 t235 t236 w0 _ ?side1 ?side2 A3.out).mono ?_); (case side1 => exact Z101.uB HI0.out NB0_230.out); (case side2 => exact zV HB.out (Z101.ge HI0.out) GE230.out); rintro e w93 ⟨v233, rfl, ho0, hi, hb, hk⟩; refine ⟨_, rfl, ?_⟩; replace BK230 := zA (KeepBut.blk hk (g' := gb230) (o := .cells #[.int .i64 0, .slice none 0 0] 26 (0, 0)) (zR BK230.out) NB230_0.out (by simp)); have HO234 := zA (Kd.R_lower ho0 (keep_size (w := w) (g := g) (row := none) (yB HK.out GW230.out))); replace HK := zA (KeepBut.trans (yB HK.out GW230.out) hk (.inl rfl)); replace HB := zA (hb); replace HI0 := zA (hi); (try clear hb); (try clear hk); (try clear hi); (try clear ho0)) | ((with_reducible refine gate_dst (N := 5) rfl ?_); refine box_event ?hg (N := 5) ?hd (cs := #[.int .i64 0, .slice none 0 0]) (t := 26) ?hr ?_; (case hd => rfl); (case hg => rfl); (case hr => first | (go_simp; done) | (go_simp; rfl)); intro gb237 hg w94 hbox hb; replace HO234 := zA (Kd.R_below (zP HO234.out) hb); replace HB := zA (below_step (zV HB.out (Z101.ge HI0.out) GE230.out) hb); have BK237 := zA (hbox); have GW237 := zA ((by rw [hg]; exact (keep_size (w := w) (g := g) (row := none) (yB HK.out GW230.out)) : w.heap.size ≤ gb237)); have GE237 := zA ((Nat.le_trans HW0.out (by rw [hg]; exact (keep_size (w := w) (g := g) (row := none) (yB HK.out GW230.out)) : w.heap.size ≤ gb237) : w0.heap.size ≤ gb237)); replace HK := zA (KeepBut.trans (yB HK.out GW230.out) (KeepBut.of_below hb g none) (.inl rfl)); have NB230_237 := zA ((by rw [hg]; exact Nat.ne_of_lt (blk_lt (g := gb230) (o := .cells #[.int .i64 0, .slice none 0 0] 26 (0, 0)) (zR BK230.out)) : gb230 ≠ gb237)); have NB237_230 := zA ((by rw [hg]; exact Nat.ne_of_gt (blk_lt (g := gb230) (o := .cells #[.int .i64 0, .slice none 0 0] 26 (0, 0)) (zR BK230.out)) : gb237 ≠ gb230)); replace BK230 := zA (blk_below (g := gb230) (o := .cells #[.int .i64 0, .slice none 0 0] 26 (0, 0)) (zR BK230.out) hb); have NB0_237 := zA ((by rw [hg]; exact Nat.ne_of_lt (Z101.lt (show Z101 w0 _ g s0_0 t235 t236 from Z101.uB HI0.out NB0_230.out)) : g ≠ gb237)); have NB237_0 := zA ((by rw [hg]; exact Nat.ne_of_gt (Z101.lt (show Z101 w0 _ g s0_0 t235 t236 from Z101.uB HI0.out NB0_230.out)) : gb237 ≠ g)); replace HI0 := zA (Z101.below (Z101.uB HI0.out NB0_230.out) hb); clear hb hbox hg; have hnb95 := NB237_230.out; have hnc95 := NB230_237.out; have hnb96 := NB237_0.out; have hnc96 := NB0_237.out; have hcz97_0 : w94.cell? ⟨gb237, 0, none⟩ = some (.int .i64 0) := (blk_cell BK237.out 0).trans rfl; have hcz97_1 : w94.cell? ⟨gb237, 1, none⟩ = some (.slice none 0 0) := (blk_cell BK237.out 1).trans rfl; have hfz97_0 := blk_frozen BK237.out 0; have hfz97_1 := blk_frozen BK237.out 1; obtain ⟨Ao98, co98, eo98⟩ := Kd.R_slice HO234.out; subst eo98) | ((with_reducible refine gate_callee (f := 79) rfl ?_); refine zO (some 11) Tryd.func79 #[.pointer (some ⟨g, 0, none⟩), .int .i64 14] ?_; (with_reducible refine (spec_l01Next.calls g s0_0 t235 t236 14 t238 t239 t240 w0 _ ?side1 ?side2 A4.out).mono ?_); (case side1 => exact Z101.uC HI0.out NB0_230.out NB0_237.out); (case side2 => exact zW HB.out (Z101.ge HI0.out) GE230.out GE237.out); rintro e w99 ⟨rfl, hi, hb, hk⟩; refine ⟨_, rfl, ?_⟩; replace BK230 := zA (KeepBut.blk hk (g' := gb230) (o := .cells #[.int .i64 0, .slice none 0 0] 26 (0, 0)) (by (with_reducible repeat (first | refine zJ ?_ _ | refine zK ?_ | refine zI ?_ _)); refine blk_far ?_ NB230_237.out _; (with_reducible repeat (first | refine zJ ?_ _ | refine zK ?_ | refine zI ?_ _)); refine blk_far ?_ NB230_237.out _; (with_reducible repeat (first | refine zJ ?_ _ | refine zK ?_ | refine zI ?_ _)); exact BK230.out) NB230_0.out (by simp)); replace HO234 := zA (Kd.R_mono (Kd.R_keep (Z101.apart (show Z101 w0 _ g s0_0 t235 t236 from Z101.uC HI0.out NB0_230.out NB0_237.out) (by (with_reducible repeat (first | apply zF | apply zG | apply zH)); exact (Kd.R_mono (Kd.R_far (p := ⟨gb237, 1, none⟩) (Kd.R_far (p := ⟨gb237, 0, none⟩) (Kd.R_types HO234.out BK237.out (by decide)) (fun _ hk => hk.2) (.int .i64 t231)) (fun _ hk => hk.2) (.slice Ao98 t232.length co98)) (fun _ h_ => h_.1))) (by decide)) hk (fun _ h => h.2)) (fun _ h => h.1)); replace BK237 := zA (KeepBut.blk hk (g' := gb237) (o := .cells #[.int .i64 t231, .slice Ao98 t232.length co98] 26 (0, 0)) (by (with_reducible repeat (first | refine zJ ?_ _ | refine zK ?_ | refine zI ?_ _)); refine blk_put (cs := #[.int .i64 t231, .slice none 0 0]) ?_ 1 _ rfl; (with_reducible repeat (first | refine zJ ?_ _ | refine zK ?_ | refine zI ?_ _)); refine blk_put (cs := #[.int .i64 0, .slice none 0 0]) ?_ 0 _ rfl; (with_reducible repeat (first | refine zJ ?_ _ | refine zK ?_ | refine zI ?_ _)); exact BK237.out) NB237_0.out (by simp)); replace HK := zA (KeepBut.trans (yC HK.out GW230.out GW237.out) hk (.inl rfl)); replace HB := zA (hb); replace HI0 := zA (hi); (try clear hb); (try clear hk); (try clear hi)) | ((with_reducible refine gate_callee (f := 79) rfl ?_); refine zO (some 15) Tryd.func79 #[.pointer (some ⟨g, 0, none⟩), .int .i64 4] ?_; (with_reducible refine (spec_l01Next.calls g s0_0 t239 t240 4 t241 t242 t243 w0 _ ?side1 ?side2 A17.out).mono ?_); (case side1 => exact Z101.uC HI0.out NB0_230.out NB0_237.out); (case side2 => exact zW HB.out (Z101.ge HI0.out) GE230.out GE237.out); rintro e w100 ⟨rfl, hi, hb, hk⟩; refine ⟨_, rfl, ?_⟩; replace BK230 := zA (KeepBut.blk hk (g' := gb230) (o := .cells #[.int .i64 0, .slice none 0 0] 26 (0, 0)) (zR BK230.out) NB230_0.out (by simp)); replace HO234 := zA (Kd.R_mono (Kd.R_keep (Z101.apart (show Z101 w0 _ g s0_0 t239 t240 from Z101.uC HI0.out NB0_230.out NB0_237.out) (zP HO234.out) (by decide)) hk (fun _ h => h.2)) (fun _ h => h.1)); replace BK237 := zA (KeepBut.blk hk (g' := gb237) (o := .cells #[.int .i64 t231, .slice Ao98 t232.length co98] 26 (0, 0)) (zR BK237.out) NB237_0.out (by simp)); replace HK := zA (KeepBut.trans (yC HK.out GW230.out GW237.out) hk (.inl rfl)); replace HB := zA (hb); replace HI0 := zA (hi); (try clear hb); (try clear hk); (try clear hi); have hcz101_0 : w100.cell? ⟨gb237, 0, none⟩ = some (.int .i64 t231) := (blk_cell BK237.out 0).trans rfl; have hcz101_1 : w100.cell? ⟨gb237, 1, none⟩ = some (.slice Ao98 t232.length co98) := (blk_cell BK237.out 1).trans rfl; have hfz101_0 := blk_frozen BK237.out 0; have hfz101_1 := blk_frozen BK237.out 1; have hnb102 := NB230_0.out; have hnc102 := NB0_230.out; have hcz103_0 : w100.cell? ⟨gb230, 0, none⟩ = some (.int .i64 0) := (blk_cell BK230.out 0).trans rfl; have hcz103_1 : w100.cell? ⟨gb230, 1, none⟩ = some (.slice none 0 0) := (blk_cell BK230.out 1).trans rfl; have hfz103_0 := blk_frozen BK230.out 0; have hfz103_1 := blk_frozen BK230.out 1))
 refine bodyPost_ret (results_cell_row rfl _ _ gb230 26 #[.int .i64 t231, .slice Ao98 t232.length co98] (0, 0) _ rfl (by (with_reducible repeat (first | refine zJ ?_ _ | refine zK ?_ | refine zI ?_ _)); refine blk_put (cs := #[.int .i64 t231, .slice none 0 0]) ?_ 1 _ rfl; (with_reducible repeat (first | refine zJ ?_ _ | refine zK ?_ | refine zI ?_ _)); refine blk_put (cs := #[.int .i64 0, .slice none 0 0]) ?_ 0 _ rfl; (with_reducible repeat (first | refine zJ ?_ _ | refine zK ?_ | refine zI ?_ _)); exact BK230.out) Tryd.underlying26 rfl (by kernel_rfl)) rfl ?_
 exact ⟨_, zr, by (with_reducible repeat (first | apply zF | apply zG | apply zH)); exact Kd.R_mono (Kd.R_far (p := ⟨gb230, 1, none⟩) (Kd.R_far (p := ⟨gb230, 0, none⟩) (Kd.R_types HO234.out BK230.out (by decide)) (fun _ hk => hk.2) (.int .i64 t231)) (fun _ hk => hk.2) (.slice Ao98 t232.length co98)) (fun _ hk => trivial), by repeat (first | (with_reducible first | exact HI0.out | apply Z101.alloc | apply Z101.drewN | apply Z101.drew | apply Z101.set_1 | apply Z101.set_2 | refine Z101.far ?_ NB0_230.out _ | refine Z101.far ?_ NB0_237.out _) | exact HI0.out), zW HB.out (Z101.ge HI0.out) GE230.out GE237.out, by repeat (first | (with_reducible first | exact HK.out | apply KeepBut.set_ | apply keep_drewN | apply keep_drew | apply keep_alloc | refine keep_far ?_ GW230.out _ | refine keep_far ?_ GW237.out _) | exact HK.out)⟩

/-! ### spec_l01In: function 64 -/
def spec_l01In.f (a0 : Int) (a1 : Int) (a2 : Int) : Option (Bool) := if a0 ≥ a1 then (some (decide (a0 ≤ a2))) else (some false)
set_option maxHeartbeats 8000000 in
set_option maxRecDepth 100000 in
theorem spec_l01In.calls (a0 : Int) (a1 : Int) (a2 : Int) (r : Bool) (w : World) (h : spec_l01In.f a0 a1 a2 = some r) :
  Calls Tryd.prog 64 #[.int .i64 a0, .int .i64 a1, .int .i64 a2] w fun e w' => e = .returned (.bool r) ∧ Drawn0 w w' := by
 have H : (if a0 ≥ a1 then (some (decide (a0 ≤ a2))) else (some false)) = some r := h
 clear h
 by_cases c4 : a0 ≥ a1
 ·rw [if_pos c4] at H
  have c4b0 : decide (a1 ≤ a0) = true := decide_eq_true c4
  clear c4
  obtain rfl := Option.some.inj H
  go_enter Tryd.func64, Tryd.ntmps64
  go_wp2
  go_ret
  exact ⟨by first | rfl | (simp; done) | (simp [*]; done), by repeat (first | exact Drawn0.refl _ | apply Drawn0.step)⟩
 rw [if_neg c4] at H
 have c4b0 : decide (a1 ≤ a0) = false := decide_eq_false c4
 clear c4
 obtain rfl := Option.some.inj H
 go_enter Tryd.func64, Tryd.ntmps64
 go_wp2
 go_ret
 exact ⟨by first | rfl | (simp; done) | (simp [*]; done), by repeat (first | exact Drawn0.refl _ | apply Drawn0.step)⟩

/-! ### spec_l01Bit: function 66 -/
def spec_l01Bit.f (a0 : Int) (a1 : Int) : Option (Bool) := if 0 ≤ (IntKind.u64.wrap (a1)) then (some ((Go.bits .and .i64 (shr .i64 a0 (IntKind.u64.wrap (a1))) 1) == 1)) else (none)
set_option maxHeartbeats 8000000 in
set_option maxRecDepth 100000 in
theorem spec_l01Bit.calls (a0 : Int) (a1 : Int) (r : Bool) (w : World) (h : spec_l01Bit.f a0 a1 = some r) :
  Calls Tryd.prog 66 #[.int .i64 a0, .int .i64 a1] w fun e w' => e = .returned (.bool r) ∧ Drawn0 w w' := by
 have H : (if 0 ≤ (IntKind.u64.wrap (a1)) then (some ((Go.bits .and .i64 (shr .i64 a0 (IntKind.u64.wrap (a1))) 1) == 1)) else (none)) = some r := h
 clear h
 obtain ⟨ji3, hji3⟩ : ∃ j_ : Int, (IntKind.u64.wrap (a1)) = j_ := ⟨_, rfl⟩
 replace H : (if 0 ≤ (ji3) then (some ((Go.bits .and .i64 (shr .i64 a0 (ji3)) 1) == 1)) else (none)) = some r := by first | (rw [hji3] at H; exact H) | (simp only [hji3] at H ⊢; exact H)
 by_cases c4 : 0 ≤ (ji3)
 ·rw [if_pos c4] at H
  have c4b0 := eq_true c4
  have c4b1 : decide (0 ≤ (ji3)) = true := decide_eq_true c4
  clear c4
  obtain ⟨ji5, hji5⟩ : ∃ j_ : Int, (shr .i64 a0 (ji3)) = j_ := ⟨_, rfl⟩
  replace H : (some ((Go.bits .and .i64 (ji5) 1) == 1)) = some r := by first | (rw [hji5] at H; exact H) | (simp only [hji5] at H ⊢; exact H)
  have hji5_ : (a0 / 2 ^ min (ji3).toNat 64) = ji5 := hji5
  have hji5z : (ji3) ≤ 64 → (a0 / 2 ^ (ji3).toNat) = ji5 := shr_small hji5
  obtain rfl := Option.some.inj H
  go_enter Tryd.func66, Tryd.ntmps66
  go_wp2
  go_ret
  exact ⟨by first | rfl | (simp; done) | (simp only [← hji3, ← hji5] <;> (first | rfl | simp)) | (simp [*]; done), by repeat (first | exact Drawn0.refl _ | apply Drawn0.step)⟩
 rw [if_neg c4] at H
 exact absurd H (by simp)

/-! ### spec_l01Full: function 65 -/
def spec_l01Full.f (a0 : Int) : Option (Int) := (spec_l01One.f a0).bind fun t277 => (some (wrap64 (t277 - 1)))
set_option maxHeartbeats 8000000 in
set_option maxRecDepth 100000 in
theorem spec_l01Full.calls (a0 : Int) (r : Int) (w : World) (h : spec_l01Full.f a0 = some r) :
  Calls Tryd.prog 65 #[.int .i64 a0] w fun e w' => e = .returned (.int .i64 r) ∧ Drawn0 w w' := by
 have H : ((spec_l01One.f a0).bind fun t277 => (some (wrap64 (t277 - 1)))) = some r := h
 clear h
 obtain ⟨t277, A2, H⟩ := zb H
 try dsimp only at H
 obtain rfl := Option.some.inj H
 go_enter Tryd.func65, Tryd.ntmps65
 go_wp2_with (first | ((with_reducible refine gate_callee (f := 54) rfl ?_); refine zO (some 4) Tryd.func54 #[.int .i64 a0] ?_; (with_reducible refine (spec_l01One.calls a0 t277 _ A2.out).mono ?_); rintro e w' ⟨rfl, ⟨nd, rfl⟩⟩; refine ⟨_, rfl, ?_⟩))
 go_ret
 exact ⟨by first | rfl | (simp; done) | (simp [*]; done), by repeat (first | exact Drawn0.refl _ | apply Drawn0.step)⟩

/-! ### spec_l01Masks: function 127 -/
def spec_l01Masks.l0 : Nat → Int → List Int → Int → Option (Bool)
 | 0, _, _, _ => none
 | k + 1, x0, x1, x5 => if x5 < (x1.length : Int) then (if 0 ≤ x5 then ((spec_l01Full.f x0).bind fun t279 => ((spec_l01In.f (rd x1 x5) 0 t279).bind fun t280 => (if t280 = true then (spec_l01Masks.l0 k x0 x1 (wrap64 (x5 + 1))) else (some false)))) else (none)) else (some true)
def spec_l01Masks.f (k : Nat) (a0 : Int) (l1 : List Int) : Option (Bool) := spec_l01Masks.l0 k a0 l1 0

set_option maxHeartbeats 8000000 in
set_option maxRecDepth 100000 in
theorem spec_l01Masks.calls (k : Nat) (a0 : Int) (A1 : Option Addr) (c1 : Nat) (l1 : List Int) (r : Bool) (w : World) (hr1 : Kd.C (Kd.int .i64) w A1 l1.length l1) (hc1 : l1.length ≤ c1) (h : spec_l01Masks.f k a0 l1 = some r) :
  Calls Tryd.prog 127 #[.int .i64 a0, .slice A1 l1.length c1] w fun e w' => e = .returned (.bool r) ∧ Drawn0 w w' := by
 have HR1 := zA hr1
 have HC1 := zA hc1
 clear hr1 hc1
 have H : (spec_l01Masks.l0 k a0 l1 0) = some r := h
 clear h
 have H' := zA H
 clear H
 go_enter Tryd.func127, Tryd.ntmps127
 go_wp2
 repeat (go_quiet (fail); try go_wp2)
 go_loopg [5] k (fun kq v5 w' => ∃ (x5_1 : Int), v5 = .int .i64 x5_1 ∧ Aside0 (spec_l01Masks.l0 kq a0 l1 x5_1 = some r) ∧ Aside0 (kq ≤ k) ∧ Drawn0 w w')
 case atStart => exact ⟨(0), (by first | rfl | (simp; done) | (simp [*]; done)), H', ⟨Nat.le_refl _⟩, by repeat (first | exact Drawn0.refl _ | apply Drawn0.step)⟩
 case round =>
  clear H'
  try clear c1
  try clear p2
  obtain ⟨x5_1, rfl, HA, HK1, ⟨m1, rfl⟩⟩ := hrel
  cases gk with
  | zero => exact absurd HA.out (by simp [spec_l01Masks.l0])
  | succ k1 =>
   have H := HA.out
   clear HA
   simp only [spec_l01Masks.l0] at H
   by_cases c3 : x5_1 < (l1.length : Int)
   ·rw [if_pos c3] at H
    have c3b0 : decide (x5_1 < (l1.length : Int)) = true := decide_eq_true c3
    clear c3
    by_cases c4 : 0 ≤ x5_1
    ·rw [if_pos c4] at H
     have c4b0 : decide (0 ≤ x5_1) = true := decide_eq_true c4
     clear c4
     obtain ⟨t279, A5, H⟩ := zb H
     try dsimp only at H
     obtain ⟨t280, A6, H⟩ := zb H
     try dsimp only at H
     by_cases c7 : t280 = true
     ·subst c7
      have H1 : (spec_l01Masks.l0 k1 a0 l1 (wrap64 (x5_1 + 1))) = some r := by rw [if_pos rfl] at H; exact H
      clear H
      have H := H1
      clear H1
      have H' := zA H
      clear H
      have p278 : 0 ≤ (x5_1 : Int) := zd
      have q278 : x5_1 < (l1.length : Int) := zd
      obtain ⟨ad278, e278, hx278_0⟩ := Kd.at_int HR1.out x5_1 p278 q278
      cases e278
      replace p278 := eq_true p278
      replace q278 := eq_true q278
      go_wp2_with (first | (go_at_call 65; (with_reducible refine (spec_l01Full.calls a0 t279 _ A5.out).mono ?_); rintro e w' ⟨rfl, ⟨nd, rfl⟩⟩; (try first | exact ⟨rfl, _, World.drewN_drewN _ _ _⟩ | exact ⟨rfl, _, Eq.trans (World.drewN_drewN _ _ _) (congrArg (World.drewN _) (Nat.add_assoc _ _ _))⟩)) | (go_at_call 64; (with_reducible refine (spec_l01In.calls (rd l1 x5_1) 0 t279 true _ A6.out).mono ?_); rintro e w' ⟨rfl, ⟨nd, rfl⟩⟩; (try first | exact ⟨rfl, _, World.drewN_drewN _ _ _⟩ | exact ⟨rfl, _, Eq.trans (World.drewN_drewN _ _ _) (congrArg (World.drewN _) (Nat.add_assoc _ _ _))⟩)))
      repeat (go_quiet (first | (go_at_call 65; (with_reducible refine (spec_l01Full.calls a0 t279 _ A5.out).mono ?_); rintro e w' ⟨rfl, ⟨nd, rfl⟩⟩; (try first | exact ⟨rfl, _, World.drewN_drewN _ _ _⟩ | exact ⟨rfl, _, Eq.trans (World.drewN_drewN _ _ _) (congrArg (World.drewN _) (Nat.add_assoc _ _ _))⟩)) | (go_at_call 64; (with_reducible refine (spec_l01In.calls (rd l1 x5_1) 0 t279 true _ A6.out).mono ?_); rintro e w' ⟨rfl, ⟨nd, rfl⟩⟩; (try first | exact ⟨rfl, _, World.drewN_drewN _ _ _⟩ | exact ⟨rfl, _, Eq.trans (World.drewN_drewN _ _ _) (congrArg (World.drewN _) (Nat.add_assoc _ _ _))⟩))); try go_wp2_with (first | (go_at_call 65; (with_reducible refine (spec_l01Full.calls a0 t279 _ A5.out).mono ?_); rintro e w' ⟨rfl, ⟨nd, rfl⟩⟩; (try first | exact ⟨rfl, _, World.drewN_drewN _ _ _⟩ | exact ⟨rfl, _, Eq.trans (World.drewN_drewN _ _ _) (congrArg (World.drewN _) (Nat.add_assoc _ _ _))⟩)) | (go_at_call 64; (with_reducible refine (spec_l01In.calls (rd l1 x5_1) 0 t279 true _ A6.out).mono ?_); rintro e w' ⟨rfl, ⟨nd, rfl⟩⟩; (try first | exact ⟨rfl, _, World.drewN_drewN _ _ _⟩ | exact ⟨rfl, _, Eq.trans (World.drewN_drewN _ _ _) (congrArg (World.drewN _) (Nat.add_assoc _ _ _))⟩))))
      go_roundg k1
      case measure => have := HK1.out; omega
      case rel => exact ⟨(wrap64 (x5_1 + 1)), (by first | rfl | (simp; done) | (simp [*]; done)), H', ⟨by have := HK1.out; omega⟩, by repeat (first | exact Drawn0.refl _ | apply Drawn0.step)⟩
     replace c7 := Bool.eq_false_iff.mpr c7
     subst c7
     have H1 : (some false) = some r := by rw [if_neg (show ¬ (false = true) by decide)] at H; exact H
     clear H
     have H := H1
     clear H1
     obtain rfl := Option.some.inj H
     have p278 : 0 ≤ (x5_1 : Int) := zd
     have q278 : x5_1 < (l1.length : Int) := zd
     obtain ⟨ad278, e278, hx278_0⟩ := Kd.at_int HR1.out x5_1 p278 q278
     cases e278
     replace p278 := eq_true p278
     replace q278 := eq_true q278
     go_wp2_with (first | (go_at_call 65; (with_reducible refine (spec_l01Full.calls a0 t279 _ A5.out).mono ?_); rintro e w' ⟨rfl, ⟨nd, rfl⟩⟩; (try first | exact ⟨rfl, _, World.drewN_drewN _ _ _⟩ | exact ⟨rfl, _, Eq.trans (World.drewN_drewN _ _ _) (congrArg (World.drewN _) (Nat.add_assoc _ _ _))⟩)) | (go_at_call 64; (with_reducible refine (spec_l01In.calls (rd l1 x5_1) 0 t279 false _ A6.out).mono ?_); rintro e w' ⟨rfl, ⟨nd, rfl⟩⟩; (try first | exact ⟨rfl, _, World.drewN_drewN _ _ _⟩ | exact ⟨rfl, _, Eq.trans (World.drewN_drewN _ _ _) (congrArg (World.drewN _) (Nat.add_assoc _ _ _))⟩)))
     repeat (go_quiet (first | (go_at_call 65; (with_reducible refine (spec_l01Full.calls a0 t279 _ A5.out).mono ?_); rintro e w' ⟨rfl, ⟨nd, rfl⟩⟩; (try first | exact ⟨rfl, _, World.drewN_drewN _ _ _⟩ | exact ⟨rfl, _, Eq.trans (World.drewN_drewN _ _ _) (congrArg (World.drewN _) (Nat.add_assoc _ _ _))⟩)) | (go_at_call 64; (with_reducible refine (spec_l01In.calls (rd l1 x5_1) 0 t279 false _ A6.out).mono ?_); rintro e w' ⟨rfl, ⟨nd, rfl⟩⟩; (try first | exact ⟨rfl, _, World.drewN_drewN _ _ _⟩ | exact ⟨rfl, _, Eq.trans (World.drewN_drewN _ _ _) (congrArg (World.drewN _) (Nat.add_assoc _ _ _))⟩))); try go_wp2_with (first | (go_at_call 65; (with_reducible refine (spec_l01Full.calls a0 t279 _ A5.out).mono ?_); rintro e w' ⟨rfl, ⟨nd, rfl⟩⟩; (try first | exact ⟨rfl, _, World.drewN_drewN _ _ _⟩ | exact ⟨rfl, _, Eq.trans (World.drewN_drewN _ _ _) (congrArg (World.drewN _) (Nat.add_assoc _ _ _))⟩)) | (go_at_call 64; (with_reducible refine (spec_l01In.calls (rd l1 x5_1) 0 t279 false _ A6.out).mono ?_); rintro e w' ⟨rfl, ⟨nd, rfl⟩⟩; (try first | exact ⟨rfl, _, World.drewN_drewN _ _ _⟩ | exact ⟨rfl, _, Eq.trans (World.drewN_drewN _ _ _) (congrArg (World.drewN _) (Nat.add_assoc _ _ _))⟩))))
     go_ret
     exact ⟨by first | rfl | (simp; done) | (simp [*]; done), by repeat (first | exact Drawn0.refl _ | apply Drawn0.step)⟩
    rw [if_neg c4] at H
    exact absurd H (by simp)
   rw [if_neg c3] at H
   have c3b0 : decide (x5_1 < (l1.length : Int)) = false := decide_eq_false c3
   clear c3
   obtain rfl := Option.some.inj H
   go_wp2
   repeat (go_quiet (fail); try go_wp2)
   go_ret
   exact ⟨by first | rfl | (simp; done) | (simp [*]; done), by repeat (first | exact Drawn0.refl _ | apply Drawn0.step)⟩

/-! ### spec_l02Is: function 106 -/
mutual
def spec_l02Is.j0 : Nat → Bool → Int → List Int → Option (Bool)
 | 0, _, _, _ => none
 | k + 1, x24, x282000, x282001 => if x24 = true then (some false) else (spec_l02Is.l0 k 0 x282000 x282001)
def spec_l02Is.l0 : Nat → Int → Int → List Int → Option (Bool)
 | 0, _, _, _ => none
 | k + 1, x3, x282000, x282001 => if x3 < x282000 then (if 0 ≤ x3 then (if x3 < (x282001.length : Int) then ((spec_l01Bit.f (rd x282001 x3) x3).bind fun t285 => (if t285 = true then (spec_l02Is.l1 k x3 0 x282000 x282001) else (some false))) else (none)) else (none)) else (some true)
def spec_l02Is.l1 : Nat → Int → Int → Int → List Int → Option (Bool)
 | 0, _, _, _, _ => none
 | k + 1, x3, x4, x282000, x282001 => if x4 < x282000 then (if 0 ≤ x3 then (if x3 < (x282001.length : Int) then ((spec_l01Bit.f (rd x282001 x3) x4).bind fun t287 => (if 0 ≤ x4 then (if x4 < (x282001.length : Int) then ((spec_l01Bit.f (rd x282001 x4) x3).bind fun t289 => (if (t287 != t289) = true then (some false) else (spec_l02Is.l1 k x3 (wrap64 (x4 + 1)) x282000 x282001))) else (none)) else (none))) else (none)) else (none)) else (spec_l02Is.l0 k (wrap64 (x3 + 1)) x282000 x282001)
end
def spec_l02Is.f (k : Nat) (a0_0 : Int) (l0_1 : List Int) : Option (Bool) := (spec_l01In.f a0_0 0 8).bind fun t282 => (if t282 = true then (if (l0_1.length : Int) = a0_0 then ((spec_l01Masks.f k a0_0 l0_1).bind fun t283 => (spec_l02Is.j0 k (!t283) a0_0 l0_1)) else (spec_l02Is.j0 k true a0_0 l0_1)) else (spec_l02Is.j0 k true a0_0 l0_1))

set_option maxHeartbeats 8000000 in
set_option maxRecDepth 100000 in
theorem spec_l02Is.calls (k : Nat) (a0_0 : Int) (A0_1 : Option Addr) (c0_1 : Nat) (l0_1 : List Int) (r : Bool) (w : World) (hr0_1 : Kd.C (Kd.int .i64) w A0_1 l0_1.length l0_1) (hc0_1 : l0_1.length ≤ c0_1) (h : spec_l02Is.f k a0_0 l0_1 = some r) :
  Calls Tryd.prog 106 #[.agg #[.int .i64 a0_0, .slice A0_1 l0_1.length c0_1]] w fun e w' => e = .returned (.bool r) ∧ Below w.heap.size w w' := by
 have hu26 := Tryd.underlying26
 have HR0_1 := zA hr0_1
 have HC0_1 := zA hc0_1
 clear hr0_1 hc0_1
 have HB := zA (Below.refl w.heap.size w)
 have H : ((spec_l01In.f a0_0 0 8).bind fun t282 => (if t282 = true then (if (l0_1.length : Int) = a0_0 then ((spec_l01Masks.f k a0_0 l0_1).bind fun t283 => (spec_l02Is.j0 k (!t283) a0_0 l0_1)) else (spec_l02Is.j0 k true a0_0 l0_1)) else (spec_l02Is.j0 k true a0_0 l0_1))) = some r := h
 clear h
 have HC2 := zA H
 clear H
 go_enter Tryd.func106, Tryd.ntmps106
 go_upto_region 1 with (first | ((with_reducible refine gate_dst (N := 1) rfl ?_); refine box_event ?hg (N := 1) ?hd (cs := #[.int .i64 a0_0, .slice A0_1 l0_1.length c0_1]) (t := 26) ?hr ?_; (case hd => rfl); (case hg => rfl); (case hr => first | (go_simp; done) | (go_simp; rfl)); intro gb281 hg w3 hbox hb; have n0_ := zA (below_step (zQ HB.out) hb); have n1_ := zA (hbox); have n2_ := zA ((by rw [hg]; exact (below_size (zQ HB.out)) : w.heap.size ≤ gb281)); have n3_ := zA ((by rw [hg]; exact (below_size (zQ HB.out)) : w.heap.size ≤ gb281)); clear HB; have HB := n0_; have BK281 := n1_; have GW281 := n2_; have GE281 := n3_; clear n0_ n1_ n2_ n3_; clear hb hbox hg))
 repeat (go_quiet (first | ((with_reducible refine gate_dst (N := 1) rfl ?_); refine box_event ?hg (N := 1) ?hd (cs := #[.int .i64 a0_0, .slice A0_1 l0_1.length c0_1]) (t := 26) ?hr ?_; (case hd => rfl); (case hg => rfl); (case hr => first | (go_simp; done) | (go_simp; rfl)); intro gb281 hg w3 hbox hb; have n0_ := zA (below_step (zQ HB.out) hb); have n1_ := zA (hbox); have n2_ := zA ((by rw [hg]; exact (below_size (zQ HB.out)) : w.heap.size ≤ gb281)); have n3_ := zA ((by rw [hg]; exact (below_size (zQ HB.out)) : w.heap.size ≤ gb281)); clear HB; have HB := n0_; have BK281 := n1_; have GW281 := n2_; have GE281 := n3_; clear n0_ n1_ n2_ n3_; clear hb hbox hg)); go_upto_region 1 with (first | ((with_reducible refine gate_dst (N := 1) rfl ?_); refine box_event ?hg (N := 1) ?hd (cs := #[.int .i64 a0_0, .slice A0_1 l0_1.length c0_1]) (t := 26) ?hr ?_; (case hd => rfl); (case hg => rfl); (case hr => first | (go_simp; done) | (go_simp; rfl)); intro gb281 hg w3 hbox hb; have n0_ := zA (below_step (zQ HB.out) hb); have n1_ := zA (hbox); have n2_ := zA ((by rw [hg]; exact (below_size (zQ HB.out)) : w.heap.size ≤ gb281)); have n3_ := zA ((by rw [hg]; exact (below_size (zQ HB.out)) : w.heap.size ≤ gb281)); clear HB; have HB := n0_; have BK281 := n1_; have GW281 := n2_; have GE281 := n3_; clear n0_ n1_ n2_ n3_; clear hb hbox hg)))
 (try simp only [Act.put, zL, zM, zN])
 go_cut [24] (fun v24 wc => ∃ (kq : Nat) (x24_1 : Bool), v24 = .bool x24_1 ∧ Aside0 (spec_l02Is.j0 kq x24_1 a0_0 l0_1 = some r) ∧ Aside0 (kq ≤ k) ∧ Aside0 (wc.heap[gb281]? = some (.cells #[.int .i64 a0_0, (.slice A0_1 l0_1.length c0_1)] 26 (0, 0))) ∧ Aside0 (Below w.heap.size w wc))
 case first =>
  have H := HC2.out
  clear HC2
  obtain ⟨t282, A4, H⟩ := zb H
  try dsimp only at H
  by_cases c5 : t282 = true
  ·subst c5
   have H1 : (if (l0_1.length : Int) = a0_0 then ((spec_l01Masks.f k a0_0 l0_1).bind fun t283 => (spec_l02Is.j0 k (!t283) a0_0 l0_1)) else (spec_l02Is.j0 k true a0_0 l0_1)) = some r := by rw [if_pos rfl] at H; exact H
   clear H
   have H := H1
   clear H1
   by_cases c6 : (l0_1.length : Int) = a0_0
   ·rw [if_pos c6] at H
    have c6b0 : ((l0_1.length : Int) == a0_0) = true := beq_iff_eq.mpr c6
    have c6b1 : ((l0_1.length : Int) != a0_0) = false := bne_eq_false_iff_eq.mpr c6
    clear c6
    (first | rw [c6b0] | (simp only [i64_w, i32_w]; rw [c6b0]) | skip)
    obtain ⟨t283, A7, H⟩ := zb H
    try dsimp only at H
    have H' := zA H
    clear H
    have hcz8_0 : w3.cell? ⟨gb281, 0, none⟩ = some (.int .i64 a0_0) := (blk_cell BK281.out 0).trans rfl
    have hcz8_1 : w3.cell? ⟨gb281, 1, none⟩ = some (.slice A0_1 l0_1.length c0_1) := (blk_cell BK281.out 1).trans rfl
    have hfz8_0 := blk_frozen BK281.out 0
    have hfz8_1 := blk_frozen BK281.out 1
    go_wp2_with (first | (go_at_call 64; (with_reducible refine (spec_l01In.calls a0_0 0 8 true _ A4.out).mono ?_); rintro e w' ⟨rfl, ⟨nd, rfl⟩⟩; (try first | exact ⟨rfl, _, World.drewN_drewN _ _ _⟩ | exact ⟨rfl, _, Eq.trans (World.drewN_drewN _ _ _) (congrArg (World.drewN _) (Nat.add_assoc _ _ _))⟩)) | (go_at_call 127; (with_reducible refine (spec_l01Masks.calls k a0_0 _ _ l0_1 t283 _ ?side1 ?side2 A7.out).mono ?_); (case side1 => exact zS (Kd.C_below HR0_1.out (zT HB.out GE281.out))); (case side2 => exact HC0_1.out); rintro e w' ⟨rfl, ⟨nd, rfl⟩⟩; (try first | exact ⟨rfl, _, World.drewN_drewN _ _ _⟩ | exact ⟨rfl, _, Eq.trans (World.drewN_drewN _ _ _) (congrArg (World.drewN _) (Nat.add_assoc _ _ _))⟩)))
    repeat (go_quiet (first | (go_at_call 64; (with_reducible refine (spec_l01In.calls a0_0 0 8 true _ A4.out).mono ?_); rintro e w' ⟨rfl, ⟨nd, rfl⟩⟩; (try first | exact ⟨rfl, _, World.drewN_drewN _ _ _⟩ | exact ⟨rfl, _, Eq.trans (World.drewN_drewN _ _ _) (congrArg (World.drewN _) (Nat.add_assoc _ _ _))⟩)) | (go_at_call 127; (with_reducible refine (spec_l01Masks.calls k a0_0 _ _ l0_1 t283 _ ?side1 ?side2 A7.out).mono ?_); (case side1 => exact zS (Kd.C_below HR0_1.out (zT HB.out GE281.out))); (case side2 => exact HC0_1.out); rintro e w' ⟨rfl, ⟨nd, rfl⟩⟩; (try first | exact ⟨rfl, _, World.drewN_drewN _ _ _⟩ | exact ⟨rfl, _, Eq.trans (World.drewN_drewN _ _ _) (congrArg (World.drewN _) (Nat.add_assoc _ _ _))⟩))); try go_wp2_with (first | (go_at_call 64; (with_reducible refine (spec_l01In.calls a0_0 0 8 true _ A4.out).mono ?_); rintro e w' ⟨rfl, ⟨nd, rfl⟩⟩; (try first | exact ⟨rfl, _, World.drewN_drewN _ _ _⟩ | exact ⟨rfl, _, Eq.trans (World.drewN_drewN _ _ _) (congrArg (World.drewN _) (Nat.add_assoc _ _ _))⟩)) | (go_at_call 127; (with_reducible refine (spec_l01Masks.calls k a0_0 _ _ l0_1 t283 _ ?side1 ?side2 A7.out).mono ?_); (case side1 => exact zS (Kd.C_below HR0_1.out (zT HB.out GE281.out))); (case side2 => exact HC0_1.out); rintro e w' ⟨rfl, ⟨nd, rfl⟩⟩; (try first | exact ⟨rfl, _, World.drewN_drewN _ _ _⟩ | exact ⟨rfl, _, Eq.trans (World.drewN_drewN _ _ _) (congrArg (World.drewN _) (Nat.add_assoc _ _ _))⟩))))
    go_meet
    case rel => exact ⟨_, (!t283), (by first | rfl | (simp; done) | (simp [*]; done)), H', ⟨by first | omega | exact Nat.le_refl _⟩, ⟨by (with_reducible repeat (first | refine zJ ?_ _ | refine zK ?_ | refine zI ?_ _)); exact BK281.out⟩, ⟨zT HB.out GE281.out⟩⟩
   rw [if_neg c6] at H
   have c6b0 : ((l0_1.length : Int) == a0_0) = false := beq_eq_false_iff_ne.mpr c6
   have c6b1 : ((l0_1.length : Int) != a0_0) = true := bne_iff_ne.mpr c6
   (first | rw [c6b0] | (simp only [i64_w, i32_w]; rw [c6b0]) | skip)
   have H' := zA H
   clear H
   have hcz9_0 : w3.cell? ⟨gb281, 0, none⟩ = some (.int .i64 a0_0) := (blk_cell BK281.out 0).trans rfl
   have hcz9_1 : w3.cell? ⟨gb281, 1, none⟩ = some (.slice A0_1 l0_1.length c0_1) := (blk_cell BK281.out 1).trans rfl
   have hfz9_0 := blk_frozen BK281.out 0
   have hfz9_1 := blk_frozen BK281.out 1
   go_wp2_with (first | (go_at_call 64; (with_reducible refine (spec_l01In.calls a0_0 0 8 true _ A4.out).mono ?_); rintro e w' ⟨rfl, ⟨nd, rfl⟩⟩; (try first | exact ⟨rfl, _, World.drewN_drewN _ _ _⟩ | exact ⟨rfl, _, Eq.trans (World.drewN_drewN _ _ _) (congrArg (World.drewN _) (Nat.add_assoc _ _ _))⟩)))
   repeat (go_quiet (first | (go_at_call 64; (with_reducible refine (spec_l01In.calls a0_0 0 8 true _ A4.out).mono ?_); rintro e w' ⟨rfl, ⟨nd, rfl⟩⟩; (try first | exact ⟨rfl, _, World.drewN_drewN _ _ _⟩ | exact ⟨rfl, _, Eq.trans (World.drewN_drewN _ _ _) (congrArg (World.drewN _) (Nat.add_assoc _ _ _))⟩))); try go_wp2_with (first | (go_at_call 64; (with_reducible refine (spec_l01In.calls a0_0 0 8 true _ A4.out).mono ?_); rintro e w' ⟨rfl, ⟨nd, rfl⟩⟩; (try first | exact ⟨rfl, _, World.drewN_drewN _ _ _⟩ | exact ⟨rfl, _, Eq.trans (World.drewN_drewN _ _ _) (congrArg (World.drewN _) (Nat.add_assoc _ _ _))⟩))))
   go_meet
   case rel => exact ⟨_, (true), (by first | rfl | (simp; done) | (simp [*]; done)), H', ⟨by first | omega | exact Nat.le_refl _⟩, ⟨by (with_reducible repeat (first | refine zJ ?_ _ | refine zK ?_ | refine zI ?_ _)); exact BK281.out⟩, ⟨zT HB.out GE281.out⟩⟩
  replace c5 := Bool.eq_false_iff.mpr c5
  subst c5
  have H1 : (spec_l02Is.j0 k true a0_0 l0_1) = some r := by rw [if_neg (show ¬ (false = true) by decide)] at H; exact H
  clear H
  have H := H1
  clear H1
  have H' := zA H
  clear H
  have hcz10_0 : w3.cell? ⟨gb281, 0, none⟩ = some (.int .i64 a0_0) := (blk_cell BK281.out 0).trans rfl
  have hcz10_1 : w3.cell? ⟨gb281, 1, none⟩ = some (.slice A0_1 l0_1.length c0_1) := (blk_cell BK281.out 1).trans rfl
  have hfz10_0 := blk_frozen BK281.out 0
  have hfz10_1 := blk_frozen BK281.out 1
  go_wp2_with (first | (go_at_call 64; (with_reducible refine (spec_l01In.calls a0_0 0 8 false _ A4.out).mono ?_); rintro e w' ⟨rfl, ⟨nd, rfl⟩⟩; (try first | exact ⟨rfl, _, World.drewN_drewN _ _ _⟩ | exact ⟨rfl, _, Eq.trans (World.drewN_drewN _ _ _) (congrArg (World.drewN _) (Nat.add_assoc _ _ _))⟩)))
  repeat (go_quiet (first | (go_at_call 64; (with_reducible refine (spec_l01In.calls a0_0 0 8 false _ A4.out).mono ?_); rintro e w' ⟨rfl, ⟨nd, rfl⟩⟩; (try first | exact ⟨rfl, _, World.drewN_drewN _ _ _⟩ | exact ⟨rfl, _, Eq.trans (World.drewN_drewN _ _ _) (congrArg (World.drewN _) (Nat.add_assoc _ _ _))⟩))); try go_wp2_with (first | (go_at_call 64; (with_reducible refine (spec_l01In.calls a0_0 0 8 false _ A4.out).mono ?_); rintro e w' ⟨rfl, ⟨nd, rfl⟩⟩; (try first | exact ⟨rfl, _, World.drewN_drewN _ _ _⟩ | exact ⟨rfl, _, Eq.trans (World.drewN_drewN _ _ _) (congrArg (World.drewN _) (Nat.add_assoc _ _ _))⟩))))
  go_meet
  case rel => exact ⟨_, (true), (by first | rfl | (simp; done) | (simp [*]; done)), H', ⟨by first | omega | exact Nat.le_refl _⟩, ⟨by (with_reducible repeat (first | refine zJ ?_ _ | refine zK ?_ | refine zI ?_ _)); exact BK281.out⟩, ⟨zT HB.out GE281.out⟩⟩
 case rest =>
  clear HC2
  try clear c1
  try clear p2
  try clear c5
  try clear c6
  try clear c6b0
  try clear c6b1
  try clear c10
  try clear hcz10_0
  try clear hcz10_1
  try clear hcz8_0
  try clear hcz8_1
  try clear hcz9_0
  try clear hcz9_1
  try clear hfz10_0
  try clear hfz10_1
  try clear hfz8_0
  try clear hfz8_1
  try clear hfz9_0
  try clear hfz9_1
  obtain ⟨kq, x24_1, rfl, HA, HJ1, BK281, HB⟩ := hcut
  cases kq with
  | zero => exact absurd HA.out (by simp [spec_l02Is.j0])
  | succ kj1 =>
   have H := HA.out
   clear HA
   simp only [spec_l02Is.j0] at H
   by_cases c11 : x24_1 = true
   ·subst c11
    have H1 : (some false) = some r := by rw [if_pos rfl] at H; exact H
    clear H
    have H := H1
    clear H1
    obtain rfl := Option.some.inj H
    go_wp2
    repeat (go_quiet (fail); try go_wp2)
    go_ret
    exact ⟨zr, zT HB.out GE281.out⟩
   replace c11 := Bool.eq_false_iff.mpr c11
   subst c11
   have H1 : (spec_l02Is.l0 kj1 0 a0_0 l0_1) = some r := by rw [if_neg (show ¬ (false = true) by decide)] at H; exact H
   clear H
   have H := H1
   clear H1
   have H' := zA H
   clear H
   go_wp2
   repeat (go_quiet (fail); try go_wp2)
   go_loopg [3] kj1 (fun kq v3 w' => ∃ (x3_2 : Int), v3 = .int .i64 x3_2 ∧ Aside0 (spec_l02Is.l0 kq x3_2 a0_0 l0_1 = some r) ∧ Aside0 (kq ≤ kj1) ∧ Aside0 (w'.heap[gb281]? = some (.cells #[.int .i64 a0_0, (.slice A0_1 l0_1.length c0_1)] 26 (0, 0))) ∧ Aside0 (Below w.heap.size w w'))
   case atStart => exact ⟨(0), (by first | rfl | (simp; done) | (simp [*]; done)), H', ⟨Nat.le_refl _⟩, ⟨by (with_reducible repeat (first | refine zJ ?_ _ | refine zK ?_ | refine zI ?_ _)); exact BK281.out⟩, ⟨zT HB.out GE281.out⟩⟩
   case round =>
    clear H'
    try clear c1
    try clear p2
    try clear c5
    try clear c6
    try clear c6b0
    try clear c6b1
    try clear c10
    try clear c11
    try clear hcz10_0
    try clear hcz10_1
    try clear hcz8_0
    try clear hcz8_1
    try clear hcz9_0
    try clear hcz9_1
    try clear hfz10_0
    try clear hfz10_1
    try clear hfz8_0
    try clear hfz8_1
    try clear hfz9_0
    try clear hfz9_1
    try clear p2
    obtain ⟨x3_2, rfl, HA, HK2, BK281, HB⟩ := hrel
    cases gk with
    | zero => exact absurd HA.out (by simp [spec_l02Is.l0])
    | succ k2 =>
     have H := HA.out
     clear HA
     simp only [spec_l02Is.l0] at H
     by_cases c12 : x3_2 < a0_0
     ·rw [if_pos c12] at H
      have c12b0 : decide (x3_2 < a0_0) = true := decide_eq_true c12
      clear c12
      by_cases c13 : 0 ≤ x3_2
      ·rw [if_pos c13] at H
       have c13b0 : decide (0 ≤ x3_2) = true := decide_eq_true c13
       clear c13
       by_cases c14 : x3_2 < (l0_1.length : Int)
       ·rw [if_pos c14] at H
        have c14b0 : decide (x3_2 < (l0_1.length : Int)) = true := decide_eq_true c14
        clear c14
        obtain ⟨t285, A15, H⟩ := zb H
        try dsimp only at H
        by_cases c16 : t285 = true
        ·subst c16
         have H1 : (spec_l02Is.l1 k2 x3_2 0 a0_0 l0_1) = some r := by rw [if_pos rfl] at H; exact H
         clear H
         have H := H1
         clear H1
         have H' := zA H
         clear H
         have hcz17_0 : wr.cell? ⟨gb281, 0, none⟩ = some (.int .i64 a0_0) := (blk_cell BK281.out 0).trans rfl
         have hcz17_1 : wr.cell? ⟨gb281, 1, none⟩ = some (.slice A0_1 l0_1.length c0_1) := (blk_cell BK281.out 1).trans rfl
         have hfz17_0 := blk_frozen BK281.out 0
         have hfz17_1 := blk_frozen BK281.out 1
         have p284 : 0 ≤ (x3_2 : Int) := zd
         have q284 : x3_2 < (l0_1.length : Int) := zd
         obtain ⟨ad284, e284, hx284_0⟩ := Kd.at_int HR0_1.out x3_2 p284 q284
         cases e284
         replace hx284_0 := (HB.out.cell (World.block_lt_of_cell? w _ hx284_0)).trans hx284_0
         replace p284 := eq_true p284
         replace q284 := eq_true q284
         go_wp2_with (first | (go_at_call 66; (with_reducible refine (spec_l01Bit.calls (rd l0_1 x3_2) x3_2 true _ A15.out).mono ?_); rintro e w' ⟨rfl, ⟨nd, rfl⟩⟩; (try first | exact ⟨rfl, _, World.drewN_drewN _ _ _⟩ | exact ⟨rfl, _, Eq.trans (World.drewN_drewN _ _ _) (congrArg (World.drewN _) (Nat.add_assoc _ _ _))⟩)))
         repeat (go_quiet (first | (go_at_call 66; (with_reducible refine (spec_l01Bit.calls (rd l0_1 x3_2) x3_2 true _ A15.out).mono ?_); rintro e w' ⟨rfl, ⟨nd, rfl⟩⟩; (try first | exact ⟨rfl, _, World.drewN_drewN _ _ _⟩ | exact ⟨rfl, _, Eq.trans (World.drewN_drewN _ _ _) (congrArg (World.drewN _) (Nat.add_assoc _ _ _))⟩))); try go_wp2_with (first | (go_at_call 66; (with_reducible refine (spec_l01Bit.calls (rd l0_1 x3_2) x3_2 true _ A15.out).mono ?_); rintro e w' ⟨rfl, ⟨nd, rfl⟩⟩; (try first | exact ⟨rfl, _, World.drewN_drewN _ _ _⟩ | exact ⟨rfl, _, Eq.trans (World.drewN_drewN _ _ _) (congrArg (World.drewN _) (Nat.add_assoc _ _ _))⟩))))
         go_loopg [4] k2 (fun kq v4 w' => ∃ (x4_3 : Int), v4 = .int .i64 x4_3 ∧ Aside0 (spec_l02Is.l1 kq x3_2 x4_3 a0_0 l0_1 = some r) ∧ Aside0 (kq ≤ k2) ∧ Aside0 (w'.heap[gb281]? = some (.cells #[.int .i64 a0_0, (.slice (some ad284) l0_1.length c0_1)] 26 (0, 0))) ∧ Aside0 (Below w.heap.size w w'))
         case atStart => exact ⟨(0), (by first | rfl | (simp; done) | (simp [*]; done)), H', ⟨Nat.le_refl _⟩, ⟨by (with_reducible repeat (first | refine zJ ?_ _ | refine zK ?_ | refine zI ?_ _)); exact BK281.out⟩, ⟨zT HB.out GE281.out⟩⟩
         case round =>
          clear H'
          try clear c1
          try clear p2
          try clear q2
          try clear hx2
          try clear c5
          try clear c6
          try clear c6b0
          try clear c6b1
          try clear c10
          try clear c11
          try clear c12
          try clear c12b0
          try clear c13
          try clear c13b0
          try clear c14
          try clear c14b0
          try clear c16
          try clear hcz10_0
          try clear hcz10_1
          try clear hcz17_0
          try clear hcz17_1
          try clear hcz8_0
          try clear hcz8_1
          try clear hcz9_0
          try clear hcz9_1
          try clear hfz10_0
          try clear hfz10_1
          try clear hfz17_0
          try clear hfz17_1
          try clear hfz8_0
          try clear hfz8_1
          try clear hfz9_0
          try clear hfz9_1
          try clear hx284_0
          try clear p2
          try clear p284
          try clear q284
          obtain ⟨x4_3, rfl, HA, HK3, BK281, HB⟩ := hrel
          cases gk with
          | zero => exact absurd HA.out (by simp [spec_l02Is.l1])
          | succ k3 =>
           have H := HA.out
           clear HA
           simp only [spec_l02Is.l1] at H
           by_cases c18 : x4_3 < a0_0
           ·rw [if_pos c18] at H
            have c18b0 : decide (x4_3 < a0_0) = true := decide_eq_true c18
            clear c18
            by_cases c19 : 0 ≤ x3_2
            ·rw [if_pos c19] at H
             have c19b0 : decide (0 ≤ x3_2) = true := decide_eq_true c19
             clear c19
             by_cases c20 : x3_2 < (l0_1.length : Int)
             ·rw [if_pos c20] at H
              have c20b0 : decide (x3_2 < (l0_1.length : Int)) = true := decide_eq_true c20
              clear c20
              obtain ⟨t287, A21, H⟩ := zb H
              try dsimp only at H
              by_cases c22 : 0 ≤ x4_3
              ·rw [if_pos c22] at H
               have c22b0 : decide (0 ≤ x4_3) = true := decide_eq_true c22
               clear c22
               by_cases c23 : x4_3 < (l0_1.length : Int)
               ·rw [if_pos c23] at H
                have c23b0 : decide (x4_3 < (l0_1.length : Int)) = true := decide_eq_true c23
                clear c23
                obtain ⟨t289, A24, H⟩ := zb H
                try dsimp only at H
                by_cases c25 : (t287 != t289) = true
                ·rw [if_pos c25] at H
                 have c25b0 : (t287 != t289) = true := c25
                 (try (have c25b1 : decide (t287 = t289) = false := by simpa using c25))
                 (try (have c25b2 : (t287 == t289) = false := by simpa using c25))
                 (try (have c25b3 : ¬ (t287 = t289) := by simpa using c25))
                 clear c25
                 obtain rfl := Option.some.inj H
                 have hcz26_0 : wr.cell? ⟨gb281, 0, none⟩ = some (.int .i64 a0_0) := (blk_cell BK281.out 0).trans rfl
                 have hcz26_1 : wr.cell? ⟨gb281, 1, none⟩ = some (.slice (some ad284) l0_1.length c0_1) := (blk_cell BK281.out 1).trans rfl
                 have hfz26_0 := blk_frozen BK281.out 0
                 have hfz26_1 := blk_frozen BK281.out 1
                 have p286 : 0 ≤ (x3_2 : Int) := zd
                 have q286 : x3_2 < (l0_1.length : Int) := zd
                 obtain ⟨ad286, e286, hx286_0⟩ := Kd.at_int HR0_1.out x3_2 p286 q286
                 obtain rfl : ad284 = ad286 := (by injection e286)
                 replace hx286_0 := (HB.out.cell (World.block_lt_of_cell? w _ hx286_0)).trans hx286_0
                 replace p286 := eq_true p286
                 replace q286 := eq_true q286
                 go_wp2_with (first | (go_at_call 66; (with_reducible refine (spec_l01Bit.calls (rd l0_1 x3_2) x4_3 t287 _ A21.out).mono ?_); rintro e w' ⟨rfl, ⟨nd, rfl⟩⟩; (try first | exact ⟨rfl, _, World.drewN_drewN _ _ _⟩ | exact ⟨rfl, _, Eq.trans (World.drewN_drewN _ _ _) (congrArg (World.drewN _) (Nat.add_assoc _ _ _))⟩); have p288 : 0 ≤ (x4_3 : Int) := zd; have q288 : x4_3 < (l0_1.length : Int) := zd; obtain ⟨ad288, e288, hx288_0⟩ := Kd.at_int HR0_1.out x4_3 p288 q288; obtain rfl : ad284 = ad288 := (by injection e288); replace hx288_0 := (HB.out.cell (World.block_lt_of_cell? w _ hx288_0)).trans hx288_0; replace p288 := eq_true p288; replace q288 := eq_true q288) | (go_at_call 66; (with_reducible refine (spec_l01Bit.calls (rd l0_1 x4_3) x3_2 t289 _ A24.out).mono ?_); rintro e w' ⟨rfl, ⟨nd, rfl⟩⟩; (try first | exact ⟨rfl, _, World.drewN_drewN _ _ _⟩ | exact ⟨rfl, _, Eq.trans (World.drewN_drewN _ _ _) (congrArg (World.drewN _) (Nat.add_assoc _ _ _))⟩)))
                 repeat (go_quiet (first | (go_at_call 66; (with_reducible refine (spec_l01Bit.calls (rd l0_1 x3_2) x4_3 t287 _ A21.out).mono ?_); rintro e w' ⟨rfl, ⟨nd, rfl⟩⟩; (try first | exact ⟨rfl, _, World.drewN_drewN _ _ _⟩ | exact ⟨rfl, _, Eq.trans (World.drewN_drewN _ _ _) (congrArg (World.drewN _) (Nat.add_assoc _ _ _))⟩); have p288 : 0 ≤ (x4_3 : Int) := zd; have q288 : x4_3 < (l0_1.length : Int) := zd; obtain ⟨ad288, e288, hx288_0⟩ := Kd.at_int HR0_1.out x4_3 p288 q288; obtain rfl : ad284 = ad288 := (by injection e288); replace hx288_0 := (HB.out.cell (World.block_lt_of_cell? w _ hx288_0)).trans hx288_0; replace p288 := eq_true p288; replace q288 := eq_true q288) | (go_at_call 66; (with_reducible refine (spec_l01Bit.calls (rd l0_1 x4_3) x3_2 t289 _ A24.out).mono ?_); rintro e w' ⟨rfl, ⟨nd, rfl⟩⟩; (try first | exact ⟨rfl, _, World.drewN_drewN _ _ _⟩ | exact ⟨rfl, _, Eq.trans (World.drewN_drewN _ _ _) (congrArg (World.drewN _) (Nat.add_assoc _ _ _))⟩))); try go_wp2_with (first | (go_at_call 66; (with_reducible refine (spec_l01Bit.calls (rd l0_1 x3_2) x4_3 t287 _ A21.out).mono ?_); rintro e w' ⟨rfl, ⟨nd, rfl⟩⟩; (try first | exact ⟨rfl, _, World.drewN_drewN _ _ _⟩ | exact ⟨rfl, _, Eq.trans (World.drewN_drewN _ _ _) (congrArg (World.drewN _) (Nat.add_assoc _ _ _))⟩); have p288 : 0 ≤ (x4_3 : Int) := zd; have q288 : x4_3 < (l0_1.length : Int) := zd; obtain ⟨ad288, e288, hx288_0⟩ := Kd.at_int HR0_1.out x4_3 p288 q288; obtain rfl : ad284 = ad288 := (by injection e288); replace hx288_0 := (HB.out.cell (World.block_lt_of_cell? w _ hx288_0)).trans hx288_0; replace p288 := eq_true p288; replace q288 := eq_true q288) | (go_at_call 66; (with_reducible refine (spec_l01Bit.calls (rd l0_1 x4_3) x3_2 t289 _ A24.out).mono ?_); rintro e w' ⟨rfl, ⟨nd, rfl⟩⟩; (try first | exact ⟨rfl, _, World.drewN_drewN _ _ _⟩ | exact ⟨rfl, _, Eq.trans (World.drewN_drewN _ _ _) (congrArg (World.drewN _) (Nat.add_assoc _ _ _))⟩))))
                 go_ret
                 exact ⟨zr, zT HB.out GE281.out⟩
                rw [if_neg c25] at H
                have c25b0 : (t287 != t289) = false := by simpa using c25
                (try (have c25b1 : decide (t287 = t289) = true := by simpa using c25))
                (try (have c25b2 : (t287 == t289) = true := by simpa using c25))
                clear c25
                have H' := zA H
                clear H
                have hcz27_0 : wr.cell? ⟨gb281, 0, none⟩ = some (.int .i64 a0_0) := (blk_cell BK281.out 0).trans rfl
                have hcz27_1 : wr.cell? ⟨gb281, 1, none⟩ = some (.slice (some ad284) l0_1.length c0_1) := (blk_cell BK281.out 1).trans rfl
                have hfz27_0 := blk_frozen BK281.out 0
                have hfz27_1 := blk_frozen BK281.out 1
                have p286 : 0 ≤ (x3_2 : Int) := zd
                have q286 : x3_2 < (l0_1.length : Int) := zd
                obtain ⟨ad286, e286, hx286_0⟩ := Kd.at_int HR0_1.out x3_2 p286 q286
                obtain rfl : ad284 = ad286 := (by injection e286)
                replace hx286_0 := (HB.out.cell (World.block_lt_of_cell? w _ hx286_0)).trans hx286_0
                replace p286 := eq_true p286
                replace q286 := eq_true q286
                go_wp2_with (first | (go_at_call 66; (with_reducible refine (spec_l01Bit.calls (rd l0_1 x3_2) x4_3 t287 _ A21.out).mono ?_); rintro e w' ⟨rfl, ⟨nd, rfl⟩⟩; (try first | exact ⟨rfl, _, World.drewN_drewN _ _ _⟩ | exact ⟨rfl, _, Eq.trans (World.drewN_drewN _ _ _) (congrArg (World.drewN _) (Nat.add_assoc _ _ _))⟩); have p288 : 0 ≤ (x4_3 : Int) := zd; have q288 : x4_3 < (l0_1.length : Int) := zd; obtain ⟨ad288, e288, hx288_0⟩ := Kd.at_int HR0_1.out x4_3 p288 q288; obtain rfl : ad284 = ad288 := (by injection e288); replace hx288_0 := (HB.out.cell (World.block_lt_of_cell? w _ hx288_0)).trans hx288_0; replace p288 := eq_true p288; replace q288 := eq_true q288) | (go_at_call 66; (with_reducible refine (spec_l01Bit.calls (rd l0_1 x4_3) x3_2 t289 _ A24.out).mono ?_); rintro e w' ⟨rfl, ⟨nd, rfl⟩⟩; (try first | exact ⟨rfl, _, World.drewN_drewN _ _ _⟩ | exact ⟨rfl, _, Eq.trans (World.drewN_drewN _ _ _) (congrArg (World.drewN _) (Nat.add_assoc _ _ _))⟩)))
                repeat (go_quiet (first | (go_at_call 66; (with_reducible refine (spec_l01Bit.calls (rd l0_1 x3_2) x4_3 t287 _ A21.out).mono ?_); rintro e w' ⟨rfl, ⟨nd, rfl⟩⟩; (try first | exact ⟨rfl, _, World.drewN_drewN _ _ _⟩ | exact ⟨rfl, _, Eq.trans (World.drewN_drewN _ _ _) (congrArg (World.drewN _) (Nat.add_assoc _ _ _))⟩); have p288 : 0 ≤ (x4_3 : Int) := zd; have q288 : x4_3 < (l0_1.length : Int) := zd; obtain ⟨ad288, e288, hx288_0⟩ := Kd.at_int HR0_1.out x4_3 p288 q288; obtain rfl : ad284 = ad288 := (by injection e288); replace hx288_0 := (HB.out.cell (World.block_lt_of_cell? w _ hx288_0)).trans hx288_0; replace p288 := eq_true p288; replace q288 := eq_true q288) | (go_at_call 66; (with_reducible refine (spec_l01Bit.calls (rd l0_1 x4_3) x3_2 t289 _ A24.out).mono ?_); rintro e w' ⟨rfl, ⟨nd, rfl⟩⟩; (try first | exact ⟨rfl, _, World.drewN_drewN _ _ _⟩ | exact ⟨rfl, _, Eq.trans (World.drewN_drewN _ _ _) (congrArg (World.drewN _) (Nat.add_assoc _ _ _))⟩))); try go_wp2_with (first | (go_at_call 66; (with_reducible refine (spec_l01Bit.calls (rd l0_1 x3_2) x4_3 t287 _ A21.out).mono ?_); rintro e w' ⟨rfl, ⟨nd, rfl⟩⟩; (try first | exact ⟨rfl, _, World.drewN_drewN _ _ _⟩ | exact ⟨rfl, _, Eq.trans (World.drewN_drewN _ _ _) (congrArg (World.drewN _) (Nat.add_assoc _ _ _))⟩); have p288 : 0 ≤ (x4_3 : Int) := zd; have q288 : x4_3 < (l0_1.length : Int) := zd; obtain ⟨ad288, e288, hx288_0⟩ := Kd.at_int HR0_1.out x4_3 p288 q288; obtain rfl : ad284 = ad288 := (by injection e288); replace hx288_0 := (HB.out.cell (World.block_lt_of_cell? w _ hx288_0)).trans hx288_0; replace p288 := eq_true p288; replace q288 := eq_true q288) | (go_at_call 66; (with_reducible refine (spec_l01Bit.calls (rd l0_1 x4_3) x3_2 t289 _ A24.out).mono ?_); rintro e w' ⟨rfl, ⟨nd, rfl⟩⟩; (try first | exact ⟨rfl, _, World.drewN_drewN _ _ _⟩ | exact ⟨rfl, _, Eq.trans (World.drewN_drewN _ _ _) (congrArg (World.drewN _) (Nat.add_assoc _ _ _))⟩))))
                go_roundg k3
                case measure => have := HJ1.out; have := HK2.out; have := HK3.out; omega
                case rel => exact ⟨(wrap64 (x4_3 + 1)), (by first | rfl | (simp; done) | (simp [*]; done)), H', ⟨by have := HJ1.out; have := HK2.out; have := HK3.out; omega⟩, ⟨by (with_reducible repeat (first | refine zJ ?_ _ | refine zK ?_ | refine zI ?_ _)); exact BK281.out⟩, ⟨zT HB.out GE281.out⟩⟩
               rw [if_neg c23] at H
               exact absurd H (by simp)
              rw [if_neg c22] at H
              exact absurd H (by simp)
             rw [if_neg c20] at H
             exact absurd H (by simp)
            rw [if_neg c19] at H
            exact absurd H (by simp)
           rw [if_neg c18] at H
           have c18b0 : decide (x4_3 < a0_0) = false := decide_eq_false c18
           clear c18
           have H' := zA H
           clear H
           have hcz28_0 : wr.cell? ⟨gb281, 0, none⟩ = some (.int .i64 a0_0) := (blk_cell BK281.out 0).trans rfl
           have hcz28_1 : wr.cell? ⟨gb281, 1, none⟩ = some (.slice (some ad284) l0_1.length c0_1) := (blk_cell BK281.out 1).trans rfl
           have hfz28_0 := blk_frozen BK281.out 0
           have hfz28_1 := blk_frozen BK281.out 1
           go_wp2
           repeat (go_quiet (fail); try go_wp2)
           go_roundg k3
           case measure => have := HJ1.out; have := HK2.out; have := HK3.out; omega
           case rel => exact ⟨(wrap64 (x3_2 + 1)), (by first | rfl | (simp; done) | (simp [*]; done)), H', ⟨by have := HJ1.out; have := HK2.out; have := HK3.out; omega⟩, ⟨by (with_reducible repeat (first | refine zJ ?_ _ | refine zK ?_ | refine zI ?_ _)); exact BK281.out⟩, ⟨zT HB.out GE281.out⟩⟩
        replace c16 := Bool.eq_false_iff.mpr c16
        subst c16
        have H1 : (some false) = some r := by rw [if_neg (show ¬ (false = true) by decide)] at H; exact H
        clear H
        have H := H1
        clear H1
        obtain rfl := Option.some.inj H
        have hcz29_0 : wr.cell? ⟨gb281, 0, none⟩ = some (.int .i64 a0_0) := (blk_cell BK281.out 0).trans rfl
        have hcz29_1 : wr.cell? ⟨gb281, 1, none⟩ = some (.slice A0_1 l0_1.length c0_1) := (blk_cell BK281.out 1).trans rfl
        have hfz29_0 := blk_frozen BK281.out 0
        have hfz29_1 := blk_frozen BK281.out 1
        have p284 : 0 ≤ (x3_2 : Int) := zd
        have q284 : x3_2 < (l0_1.length : Int) := zd
        obtain ⟨ad284, e284, hx284_0⟩ := Kd.at_int HR0_1.out x3_2 p284 q284
        cases e284
        replace hx284_0 := (HB.out.cell (World.block_lt_of_cell? w _ hx284_0)).trans hx284_0
        replace p284 := eq_true p284
        replace q284 := eq_true q284
        go_wp2_with (first | (go_at_call 66; (with_reducible refine (spec_l01Bit.calls (rd l0_1 x3_2) x3_2 false _ A15.out).mono ?_); rintro e w' ⟨rfl, ⟨nd, rfl⟩⟩; (try first | exact ⟨rfl, _, World.drewN_drewN _ _ _⟩ | exact ⟨rfl, _, Eq.trans (World.drewN_drewN _ _ _) (congrArg (World.drewN _) (Nat.add_assoc _ _ _))⟩)))
        repeat (go_quiet (first | (go_at_call 66; (with_reducible refine (spec_l01Bit.calls (rd l0_1 x3_2) x3_2 false _ A15.out).mono ?_); rintro e w' ⟨rfl, ⟨nd, rfl⟩⟩; (try first | exact ⟨rfl, _, World.drewN_drewN _ _ _⟩ | exact ⟨rfl, _, Eq.trans (World.drewN_drewN _ _ _) (congrArg (World.drewN _) (Nat.add_assoc _ _ _))⟩))); try go_wp2_with (first | (go_at_call 66; (with_reducible refine (spec_l01Bit.calls (rd l0_1 x3_2) x3_2 false _ A15.out).mono ?_); rintro e w' ⟨rfl, ⟨nd, rfl⟩⟩; (try first | exact ⟨rfl, _, World.drewN_drewN _ _ _⟩ | exact ⟨rfl, _, Eq.trans (World.drewN_drewN _ _ _) (congrArg (World.drewN _) (Nat.add_assoc _ _ _))⟩))))
        go_ret
        exact ⟨zr, zT HB.out GE281.out⟩
       rw [if_neg c14] at H
       exact absurd H (by simp)
      rw [if_neg c13] at H
      exact absurd H (by simp)
     rw [if_neg c12] at H
     have c12b0 : decide (x3_2 < a0_0) = false := decide_eq_false c12
     clear c12
     obtain rfl := Option.some.inj H
     have hcz30_0 : wr.cell? ⟨gb281, 0, none⟩ = some (.int .i64 a0_0) := (blk_cell BK281.out 0).trans rfl
     have hcz30_1 : wr.cell? ⟨gb281, 1, none⟩ = some (.slice A0_1 l0_1.length c0_1) := (blk_cell BK281.out 1).trans rfl
     have hfz30_0 := blk_frozen BK281.out 0
     have hfz30_1 := blk_frozen BK281.out 1
     go_wp2
     repeat (go_quiet (fail); try go_wp2)
     go_ret
     exact ⟨zr, zT HB.out GE281.out⟩

end Go.Proofs.YtkiacoilecdepaaDoor.PAll
