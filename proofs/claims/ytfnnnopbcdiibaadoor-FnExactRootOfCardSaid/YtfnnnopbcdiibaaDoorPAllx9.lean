-- Printed by a program of the session (wip/tools/pgen.py) out of the translation. Not trusted: Lean checks it.
import Derived.Test.YtfnnnopbcdiibaaDoorPAllx0
namespace Go.Proofs.YtfnnnopbcdiibaaDoor.PAll
open Go.RowKit Go.Proofs.YtfnnnopbcdiibaaDoor.T Go.Proofs.YtfnnnopbcdiibaaDoorW.PrintWords Go.Proofs.YtfnnnopbcdiibaaDoorW.PrintLast Go.Proofs.YtfnnnopbcdiibaaDoorW.PrintMore
attribute [local go_sem] max2_int min2_int max_two min_two max_three min_three max_four min_four   -- for this text's walks alone
set_option linter.unusedVariables false
set_option linter.unusedSimpArgs false

/-! ### spec_l07Power: function 56 -/
def spec_l07Power.l0 : Nat → List Int → Int → List Int → Option (List Int)
 | 0, _, _, _ => none
 | k + 1, x0, x1, x5 => if x1 > 0 then (if x5.length + x0.length < 17592186044416 then (spec_l07Power.l0 k x0 (wrap64 (x1 - 1)) (x5 ++ x0)) else (none)) else (some x5)
def spec_l07Power.f (k : Nat) (l0 : List Int) (a1 : Int) : Option (List Int) := spec_l07Power.l0 k l0 a1 (([] : List Int))

set_option maxHeartbeats 8000000 in
set_option maxRecDepth 100000 in
theorem spec_l07Power.calls (k : Nat) (A0 : Option Addr) (c0 : Nat) (l0 : List Int) (a1 : Int) (r : List Int) (w : World) (hr0 : Kd.C (Kd.int .i64) w A0 l0.length l0) (hc0 : l0.length ≤ c0) (h : spec_l07Power.f k l0 a1 = some r) :
  Calls Tryd.prog 56 #[.slice A0 l0.length c0, .int .i64 a1] w fun e w' => ∃ v0_ : Value, e = .returned (v0_) ∧ Kd.R (Kd.int .i64) 2 w' w.heap.size (fun _ => True) v0_ r ∧ Below w.heap.size w w' := by
 have HR0 := zA hr0
 have HC0 := zA hc0
 clear hr0 hc0
 have HB := zA (kW w.heap.size w)
 have H := h
 unfold spec_l07Power.f at H
 clear h
 obtain ⟨y157, hy157⟩ : ∃ y_ : List Int, y_ = (([] : List Int)) := ⟨_, rfl⟩
 replace H : (spec_l07Power.l0 k l0 a1 y157) = some r := zy hy157 H
 have Ny157 := zA hy157
 clear hy157
 have H' := zA H
 clear H
 go_enter Tryd.func56, Tryd.ntmps56
 go_wp2_with (first | ((with_reducible refine kS (N := 6) rfl ?_); refine Kd.R_lit (Kd.int .i64) _ 2 ?hg (N := 6) ?hd (xs := ([] : List Int)) (inner := []) (ok := fun _ => True) (okp := fun _ => True) ?hr ?hp (fun _ hk => hk) trivial (kW _ _) (Nat.le_refl _) (by simp) ?_; (case hd => rfl); (case hg => rfl); (case hr => first | (go_simp; done) | (go_simp; rfl)); (case hp => exact (Reps.none _ _)); intro v158 w3 ho4 hb hg_ hnew_; clear hg_ hnew_; (first | rw [← Ny157.out] at ho4 | (simp only [Int.reduceToNat] at ho4; rw [← Ny157.out] at ho4)); have HO159 := zA (kI ho4 (kP (zQ HB.out))); replace HB := zA (kQ (zQ HB.out) hb); clear hb ho4))
 go_loopg [1, 5] k (fun kq v1 v5 w' => ∃ (x1_1 : Int) (x5_1 : List Int), v1 = .int .i64 x1_1 ∧ Aside0 (spec_l07Power.l0 kq l0 x1_1 x5_1 = some r) ∧ Aside0 (kq ≤ k) ∧ Aside0 (Kd.R (Kd.int .i64) 2 w' w.heap.size (fun _ => True) v5 x5_1) ∧ Aside0 (Below w.heap.size w w'))
 case atStart => exact ⟨(a1), (y157), zs, H', ⟨Nat.le_refl _⟩, ⟨zP HO159.out⟩, ⟨zQ HB.out⟩⟩
 case round =>
  clear H'
  obtain ⟨x1_1, x5_1, rfl, HA, HK1, HO_5, HB⟩ := hrel
  cases gk with
  | zero => exact absurd HA.out (by simp [spec_l07Power.l0])
  | succ k1 =>
   have H := HA.out
   clear HA
   simp only [spec_l07Power.l0] at H
   by_cases c5 : x1_1 > 0
   ·rw [if_pos c5] at H
    have c5b0 : decide (0 < x1_1) = true := decide_eq_true c5
    clear c5
    by_cases c6 : x5_1.length + l0.length < 17592186044416
    ·rw [if_pos c6] at H
     have LMc6 := zA c6
     clear c6
     obtain ⟨y160, hy160⟩ : ∃ y_ : List Int, y_ = (x5_1 ++ l0) := ⟨_, rfl⟩
     replace H : (spec_l07Power.l0 k1 l0 (wrap64 (x1_1 - 1)) y160) = some r := zy hy160 H
     have Ny160 := zA hy160
     clear hy160
     have H' := zA H
     clear H
     go_wp2_with (first | ((with_reducible refine gate_builtin (b := .append) (xs := #[.tmp 11, .tmp 12]) rfl ?_); at_builtin; refine Kd.R_append_rows (Kd.int .i64) (w0 := w) w.heap.size rfl (.tmp 11) (.tmp 12) 22 2 (.int .i64 0) 8 rfl Tryd.underlying22 info2 rfl (by decide) (by omega) u5 x5_1 l0 _ _ _ (fun _ => True) (fun _ => False) rfl rfl ?aO ?aR (fun _ _ h => h) (fun _ h => h.elim) ?aF ?aB ?aS ?aL ?_; (case aR => exact zS (kO HR0.out HB.out)); (case aB => exact (zQ HB.out)); (case aF => exact (fun _ _ => trivial)); (case aO => exact (zP HO_5.out)); (case aS => exact (kP (zQ HB.out))); (case aL => have := LMc6.out; omega); intro v161 w7 ho hb hg hat; rw [← Ny160.out] at ho; replace HB := zA (hb); have HO162 := zA (ho); clear HO_5; clear ho hb hg hat))
     go_roundg k1
     case measure => have := HK1.out; omega
     case rel => exact ⟨(wrap64 (x1_1 - 1)), (y160), zs, H', ⟨by have := HK1.out; omega⟩, ⟨zP HO162.out⟩, ⟨zQ HB.out⟩⟩
    rw [if_neg c6] at H
    exact absurd H (by simp)
   rw [if_neg c5] at H
   have c5b0 : decide (0 < x1_1) = false := decide_eq_false c5
   clear c5
   obtain rfl := Option.some.inj H
   go_wp2
   go_ret
   exact ⟨_, zr, zP HO_5.out, zQ HB.out⟩

/-! ### bits_Mul32: function 145 -/
def bits_Mul32.f (a0 : Int) (a1 : Int) : Option (Int × Int) := some (((IntKind.u64.wrap ((IntKind.u64.wrap (a0)) * (IntKind.u64.wrap (a1)))) / 4294967296) % 4294967296, (IntKind.u64.wrap ((IntKind.u64.wrap (a0)) * (IntKind.u64.wrap (a1)))) % 4294967296)
set_option maxHeartbeats 8000000 in
set_option maxRecDepth 100000 in
theorem bits_Mul32.calls (a0 : Int) (a1 : Int) (r1 : Int) (r2 : Int) (w : World) (h : bits_Mul32.f a0 a1 = some (r1, r2)) :
  Calls Tryd.prog 145 #[.int .u32 a0, .int .u32 a1] w fun e w' => e = .returned (.tuple #[.int .u32 r1, .int .u32 r2]) ∧ Drawn0 w w' := by
 have H := h
 unfold bits_Mul32.f at H
 clear h
 simp only [Option.some.injEq, Prod.mk.injEq] at H
 obtain ⟨rfl, rfl⟩ := H
 go_enter Tryd.func145, Tryd.ntmps145
 go_wp2
 go_ret2
 exact ⟨zs, by repeat (first | exact Drawn0.refl _ | apply Drawn0.step)⟩

/-! ### bits_Mul64: function 146 -/
def bits_Mul64.f (a0 : Int) (a1 : Int) : Option (Int × Int) := some (IntKind.u64.wrap ((IntKind.u64.wrap ((IntKind.u64.wrap ((a0 / 4294967296) * (a1 / 4294967296))) + ((IntKind.u64.wrap ((IntKind.u64.wrap ((a0 / 4294967296) * (Go.bits .and .u64 a1 4294967295))) + ((IntKind.u64.wrap ((Go.bits .and .u64 a0 4294967295) * (Go.bits .and .u64 a1 4294967295))) / 4294967296))) / 4294967296))) + ((IntKind.u64.wrap ((Go.bits .and .u64 (IntKind.u64.wrap ((IntKind.u64.wrap ((a0 / 4294967296) * (Go.bits .and .u64 a1 4294967295))) + ((IntKind.u64.wrap ((Go.bits .and .u64 a0 4294967295) * (Go.bits .and .u64 a1 4294967295))) / 4294967296))) 4294967295) + (IntKind.u64.wrap ((Go.bits .and .u64 a0 4294967295) * (a1 / 4294967296))))) / 4294967296)), IntKind.u64.wrap (a0 * a1))
set_option maxHeartbeats 8000000 in
set_option maxRecDepth 100000 in
theorem bits_Mul64.calls (a0 : Int) (a1 : Int) (r1 : Int) (r2 : Int) (w : World) (h : bits_Mul64.f a0 a1 = some (r1, r2)) :
  Calls Tryd.prog 146 #[.int .u64 a0, .int .u64 a1] w fun e w' => e = .returned (.tuple #[.int .u64 r1, .int .u64 r2]) ∧ Drawn0 w w' := by
 have H := h
 unfold bits_Mul64.f at H
 clear h
 simp only [Option.some.injEq, Prod.mk.injEq] at H
 obtain ⟨rfl, rfl⟩ := H
 go_enter Tryd.func146, Tryd.ntmps146
 go_wp2
 go_ret2
 exact ⟨zs, by repeat (first | exact Drawn0.refl _ | apply Drawn0.step)⟩

/-! ### bits_Mul: function 108 -/
def bits_Mul.f (a0 : Int) (a1 : Int) : Option (Int × Int) := (bits_Mul64.f a0 a1).bind fun bt255 => (some (bt255.1, bt255.2))
set_option maxHeartbeats 8000000 in
set_option maxRecDepth 100000 in
theorem bits_Mul.calls (a0 : Int) (a1 : Int) (r1 : Int) (r2 : Int) (w : World) (h : bits_Mul.f a0 a1 = some (r1, r2)) :
  Calls Tryd.prog 108 #[.int .u64 a0, .int .u64 a1] w fun e w' => e = .returned (.tuple #[.int .u64 r1, .int .u64 r2]) ∧ Drawn0 w w' := by
 have H := h
 unfold bits_Mul.f at H
 clear h
 obtain ⟨⟨t255, t256⟩, A3, H⟩ := zb H
 try dsimp only at H
 simp only [Option.some.injEq, Prod.mk.injEq] at H
 obtain ⟨rfl, rfl⟩ := H
 go_enter Tryd.func108, Tryd.ntmps108
 go_wp2_with (first | (refine zO (some 25) Tryd.func146 #[.int .u64 a0, .int .u64 a1] ?_; (with_reducible refine (bits_Mul64.calls a0 a1 t255 t256 _ A3.out).mono ?_); rintro e w' ⟨rfl, ⟨nd, rfl⟩⟩; refine ⟨_, rfl, ?_⟩))
 go_ret2
 exact ⟨zs, by repeat (first | exact Drawn0.refl _ | apply Drawn0.step)⟩

/-! ### slices_Repeat_int64_int64: function 61: a contract of our own -/
def slices_Repeat_int64_int64.f (l0 : List Int) (a0 : Int) : Option (List Int) := if (0 ≤ a0 ∧ a0 ≤ 24) ∧ l0.length ≤ 24 then some (List.replicate a0.toNat l0).flatten else none
theorem rep_len {α : Type} (l : List α) (k : Nat) : ((List.replicate k l).flatten).length = k * l.length := by
 induction k with
 | zero => simp
 | succ k ih => rw [List.replicate_succ, List.flatten_cons, List.length_append, ih, Nat.succ_mul]; omega
theorem rep_add {α : Type} (l : List α) (a b : Nat) : (List.replicate (a + b) l).flatten = (List.replicate a l).flatten ++ (List.replicate b l).flatten := by
 rw [← List.flatten_append, List.replicate_append_replicate]
theorem rep_take {α : Type} (l : List α) (k c m : Nat) (hc : c ≤ k) (hm : m ≤ (k - c) * l.length) :
  ((List.replicate k l).flatten).take (c * l.length + m) = ((List.replicate k l).flatten).take (c * l.length) ++ ((List.replicate k l).flatten).take m := by
 have e1 : (List.replicate k l).flatten = (List.replicate c l).flatten ++ (List.replicate (k - c) l).flatten := by rw [← rep_add, show c + (k - c) = k by omega]
 have e2 : (List.replicate k l).flatten = (List.replicate (k - c) l).flatten ++ (List.replicate c l).flatten := by rw [← rep_add, show k - c + c = k by omega]
 have e3 : ((List.replicate k l).flatten).take m = ((List.replicate (k - c) l).flatten).take m := by
  rw [e2, List.take_append_of_le_length (by rw [rep_len]; exact hm)]
 rw [e3, e1, ← rep_len l c, List.take_length_add_append, List.take_left]
theorem numsL {k : IntKind} (xs : List Int) : (nums k xs).length = xs.length := by simp [nums]
theorem numsOne {k : IntKind} (xs : List Int) : ∀ v ∈ nums k xs, v.oneCell' = true := fun v hv => by
 obtain ⟨x, _, rfl⟩ := List.mem_map.1 hv
 rfl
/-- what the row holds when n elements lie there -/
def repC (P : List Int) (n : Nat) : List Value := nums .i64 (P.take n ++ List.replicate (P.length - n) 0)
theorem repC_length (P : List Int) (n : Nat) (h : n ≤ P.length) : (repC P n).length = P.length := by simp [repC, nums]; omega
theorem repC_splice (P X : List Int) (n : Nat) (h : n + X.length ≤ P.length) (e : P.take (n + X.length) = P.take n ++ X) : splice (repC P n) n (nums .i64 X) = repC P (n + X.length) := by
 have hl : (P.take n).length = n := by rw [List.length_take]; omega
 have h1 : (P.take n ++ List.replicate (P.length - n) 0).take n = P.take n := by
  rw [List.take_append_of_le_length (by omega), List.take_of_length_le (by omega)]
 have h2 : (P.take n ++ List.replicate (P.length - n) 0).drop (n + X.length) = List.replicate (P.length - (n + X.length)) 0 := by
  rw [List.drop_append, List.drop_eq_nil_of_le (by omega), List.nil_append, List.drop_replicate, hl]
  congr 1; omega
 unfold splice repC nums
 rw [← List.map_take, ← List.map_drop, List.length_map, h1, h2, ← List.map_append, ← List.map_append, e, List.append_assoc]
theorem mul_few (a b : Nat) (ha : a ≤ 24) (hb : b ≤ 24) : bits_Mul.f (a : Int) (b : Int) = some (0, ((a * b : Nat) : Int)) := by
 have h : ∀ a < 25, ∀ b < 25, bits_Mul.f ((a : Nat) : Int) ((b : Nat) : Int) = some (0, ((a * b : Nat) : Int)) := by decide +kernel
 exact h a (by omega) b (by omega)
theorem R_of_row {w : World} {base g : Nat} {xs : List Int} {ok : Nat → Prop} (hg : w.heap[g]? = some (.cells (nums .i64 xs).toArray 2 (0, 0))) (hb : base ≤ g) (hok : ok g) (hl : xs.length ≤ 9223372036854775807) :
  Kd.R (Kd.int .i64) 2 w base ok (.slice (some ⟨g, 0, none⟩) xs.length xs.length) xs := by
 refine ⟨fun k hk => ?_, nums .i64 xs, ⟨by simp [nums, Kd.int, Kd.scalar], .inr ⟨g, xs.length, (nums .i64 xs).toArray, rfl, hb, hg, Nat.le_refl _, by simpa [maxLen] using hl, by simp [nums, Kd.int, Kd.scalar], by simpa [nums, Kd.int, Kd.scalar] using List.take_of_length_le (by simp)⟩⟩, by simp [nums, Kd.int, Kd.scalar], fun j p hj => ?_⟩
 ·have : g = k := by simpa [Value.ownBlock] using hk
  subst this; exact hok
 have hlt := (List.getElem?_eq_some_iff.1 hj)
 obtain ⟨h1, rfl⟩ := hlt
 show List.take 1 (List.drop (j * 1) (nums .i64 xs)) = [Value.int .i64 xs[j]]
 rw [Nat.mul_one]
 have h2 : j < (nums .i64 xs).length := by simpa [nums] using h1
 rw [List.drop_eq_getElem_cons h2]
 simp [nums]
theorem repC_zero (P : List Int) : (repC P 0).toArray = madeCells #[.int .i64 0] P.length := by
 apply Array.ext'
 show repC P 0 = (madeCells #[Value.int .i64 0] P.length).toList
 apply List.ext_getElem
 ·simp [repC, nums, madeCells]
 intro i h1 h2
 simp [repC, nums, madeCells, Nat.mod_one]
theorem repC_full (P : List Int) : repC P P.length = nums .i64 P := by simp [repC, nums]
theorem int_at' {w : World} {A : Option Addr} {n : Nat} {xs : List Int} (h : Kd.C (Kd.int .i64) w A n xs) (i : Nat) (h1 : i < n) : ∃ ad, A = some ad ∧ w.cell? (ad.add i) = some (.int .i64 (xs.getD i 0)) := by
 obtain ⟨ad, e, hc⟩ := Kd.at_int h (i : Int) (by omega) (by omega)
 exact ⟨ad, e, by simpa [rd] using hc⟩
theorem nums_at {X : List Int} {j : Nat} {v : Value} (h : (nums .i64 X)[j]? = some v) : j < X.length ∧ v = .int .i64 (X.getD j 0) := by
 obtain ⟨h1, rfl⟩ := List.getElem?_eq_some_iff.1 h
 have h2 : j < X.length := by simpa [nums] using h1
 exact ⟨h2, by simp [nums, List.getD_eq_getElem?_getD, h2]⟩
theorem repC_cell {w : World} {g : Nat} {P : List Int} {n : Nat} (hg : w.heap[g]? = some (.cells (repC P n).toArray 2 (0, 0))) (j : Nat) (hj : j < n) (hn : n ≤ P.length) : w.cell? ⟨g, j, none⟩ = some (.int .i64 (P.getD j 0)) := by
 rw [kV hg]
 show ((repC P n).toArray)[j]? = _
 rw [List.getElem?_toArray]
 unfold repC nums
 rw [List.getElem?_map, List.getElem?_append_left (by rw [List.length_take]; omega), List.getElem?_take, if_pos hj, List.getD_eq_getElem?_getD, List.getElem?_eq_getElem (by omega)]
 rfl
set_option maxHeartbeats 4000000 in
set_option maxRecDepth 100000 in
theorem slices_Repeat_int64_int64.calls (A0 : Option Addr) (c0 : Nat) (l0 : List Int) (a0 : Int) (r : List Int) (w : World) (hr0 : Kd.C (Kd.int .i64) w A0 l0.length l0) (hc0 : l0.length ≤ c0) (h : slices_Repeat_int64_int64.f l0 a0 = some r) :
  Calls Tryd.prog 61 #[.slice A0 l0.length c0, .int .i64 a0] w fun e w' => ∃ v0_ : Value, e = .returned (v0_) ∧ Kd.R (Kd.int .i64) 2 w' w.heap.size (fun _ => True) v0_ r ∧ Below w.heap.size w w' := by
 unfold slices_Repeat_int64_int64.f at h
 by_cases hT : (0 ≤ a0 ∧ a0 ≤ 24) ∧ l0.length ≤ 24
 ·rw [if_pos hT] at h
  obtain rfl := Option.some.inj h
  clear h hc0
  obtain ⟨⟨h0, h1⟩, hl⟩ := hT
  obtain ⟨k, rfl⟩ := Int.eq_ofNat_of_zero_le h0
  rw [Int.toNat_natCast]
  have hk : k ≤ 24 := by omega
  have hPl := rep_len l0 k
  have hper := rep_take l0 k
  have hmul : k * l0.length ≤ 24 * 24 := Nat.mul_le_mul hk hl
  have hm := mul_few l0.length k hl hk
  rw [Nat.mul_comm, ← hPl] at hm
  obtain ⟨P, hP⟩ : ∃ P, P = (List.replicate k l0).flatten := ⟨_, rfl⟩
  rw [← hP] at hPl hper hm ⊢
  have hPb : P.length ≤ 576 := by rw [hPl]; omega
  have hmake := print_make (P := Tryd.prog) 22 2 .i64 8 Tryd.underlying22 info2 (by decide) P.length (by omega)
  have HM := zA hm
  have HR0 := zA hr0
  have HPER := zA hper
  have HPL := zA hPl
  have HP := zA hP
  have HK := zA hk
  have HL := zA hl
  clear hm hr0 hper hP h0 h1 hPl hmul
  go_enter Tryd.func61, Tryd.ntmps61
  have hsz : (Tryd.prog.info? 2).map (·.size) = some 1 := by kernel_rfl
  obtain ⟨X, hX⟩ : ∃ X, X = l0.take P.length := ⟨_, rfl⟩
  have hXl : X.length = Nat.min l0.length P.length := by rw [hX, List.length_take, Nat.min_comm]
  have hXP : P.take X.length = X := by
   rw [hXl, hX]
   by_cases h0 : k = 0
   ·have : P.length = 0 := by rw [HPL.out, h0]; simp
    rw [this]; simp
   obtain ⟨q, rfl⟩ : ∃ q, k = q + 1 := ⟨k - 1, by omega⟩
   have e1 : P = l0 ++ (List.replicate q l0).flatten := by rw [HP.out, List.replicate_succ, List.flatten_cons]
   have e2 : l0.length ≤ P.length := by rw [e1, List.length_append]; omega
   rw [show Nat.min l0.length P.length = l0.length from Nat.min_eq_left e2, List.take_of_length_le (i := P.length) e2, e1, List.take_left]
  have HXX := zA hX
  have HXL := zA hXl
  have HXP := zA hXP
  clear hX hXl hXP
  have HC := zA (fun j v (h : (nums .i64 X)[j]? = some v) => (by
   obtain ⟨h1, rfl⟩ := nums_at h
   have h2 := HXL.out
   have h3 : j < l0.length := by rw [h2] at h1; exact Nat.lt_of_lt_of_le h1 (Nat.min_le_left _ _)
   obtain ⟨ad, e, hc⟩ := int_at' HR0.out j h3
   refine ⟨ad, e, ?_⟩
   rw [hc, HXX.out, List.getD_eq_getElem?_getD, List.getD_eq_getElem?_getD, List.getElem?_take, if_pos (by rw [h2] at h1; exact Nat.lt_of_lt_of_le h1 (Nat.min_le_right _ _))] : ∃ ad, A0 = some ad ∧ w.cell? (ad.add j) = some v))
  have HPOS := zA (fun (W : World) (hb : Below w.heap.size w W) (h0 : 0 < (nums .i64 X).length) => (by
   obtain ⟨ad, e, _⟩ := HC.out 0 _ (List.getElem?_eq_getElem h0)
   refine ⟨ad, e, fun j v hv => ?_⟩
   obtain ⟨ad2, e2, hc⟩ := HC.out j v hv
   obtain rfl : ad = ad2 := by rw [e] at e2; exact Option.some.inj e2
   exact pw_cell_below hb hc : ∃ ad, A0 = some ad ∧ ∀ j v, (nums .i64 X)[j]? = some v → W.cell? (ad.add j) = some v))
  have HFIT := zA (show 0 + (nums .i64 X).length ≤ (repC P 0).length by rw [numsL, repC_length P 0 (Nat.zero_le _), HXL.out, Nat.zero_add]; exact Nat.min_le_right _ _)
  have HNX := zA (show (nums .i64 X).length = Nat.min l0.length P.length by rw [numsL]; exact HXL.out)
  have HONE := zA (numsOne (k := .i64) X)
  go_wp2_with (first | (go_at_call 108; refine (bits_Mul.calls _ _ _ _ _ HM.out).mono ?_; rintro e w1 ⟨rfl, ⟨nd, rfl⟩⟩) | ((with_reducible refine gate_builtin (b := .copy) (xs := #[.tmp 31, .tmp 32]) rfl ?_); refine wpList_copy_splice rfl (.tmp 31) (.tmp 32) 22 22 rfl 2 Tryd.underlying22 hsz _ _ _ _ _ _ rfl rfl w.heap.size 0 (repC P 0) 2 (by rw [repC_zero]; exact blk_new _ _) (nums .i64 X) HNX.out (fun h0 => ⟨rfl, HPOS.out _ (zB (zC (kW _ _) _) _) h0⟩) HFIT.out HONE.out w.heap.size w (zB (zC (kW _ _) _) _) (Nat.le_refl _) ?_; intro w2 hg2 hb2; have HG := zA hg2.out; have HB := zA hb2; clear hg2 hb2))
  have hXP0 : X.length ≤ P.length := by rw [HXL.out]; exact Nat.min_le_right _ _
  have e0 := repC_splice P X 0 (by omega) (by rw [Nat.zero_add, HXP.out]; simp)
  rw [Nat.zero_add] at e0
  have HG0 : Aside0 (w2.heap[w.heap.size]? = some (.cells (repC P X.length).toArray 2 (0, 0))) := ⟨by rw [← e0]; exact HG.out⟩
  have eX : ((nums .i64 X).length : Int) = (X.length : Int) := by rw [numsL]
  clear HG e0 hmake
  go_loopg [8] P.length (fun gg v8 wr => ∃ n : Nat, n ≤ P.length ∧ P.length - n ≤ gg ∧ v8 = .int .i64 n ∧ Aside0 ((P.length ≠ 0 → 0 < n) ∧ (n = P.length ∨ ∃ c, c ≤ k ∧ n = c * l0.length)) ∧ Aside0 (wr.heap[w.heap.size]? = some (.cells (repC P n).toArray 2 (0, 0))) ∧ Aside0 (Below w.heap.size w wr))
  case atStart =>
   refine ⟨X.length, hXP0, by omega, by simp [goInt, numsL], ⟨fun h0 => ?_, ?_⟩, HG0, HB⟩
   ·have h1 := HXL.out
    have h2 := HPL.out
    have h3 : l0.length ≠ 0 := fun z => h0 (by rw [h2, z]; rfl)
    rw [h1]
    exact Nat.lt_min.2 ⟨by omega, by omega⟩
   by_cases g : P.length ≤ l0.length
   ·left; rw [HXL.out]; exact Nat.min_eq_right g
   right
   refine ⟨1, ?_, by rw [HXL.out, Nat.one_mul]; exact Nat.min_eq_left (by omega)⟩
   by_cases k0 : k = 0
   ·exfalso; apply g; rw [HPL.out, k0]; simp
   omega
  case round =>
   clear HG0 HB eX
   obtain ⟨n, hn, hgg, rfl, HI, HG, HB⟩ := hrel
   by_cases hlt : n < P.length
   ·have hltz : (n : Int) < (P.length : Int) := by omega
    obtain ⟨m, hm⟩ : ∃ m, m = Nat.min n (P.length - n) := ⟨_, rfl⟩
    have hm1 : m ≤ n := by rw [hm]; exact Nat.min_le_left _ _
    have hm3 : m ≤ P.length - n := by rw [hm]; exact Nat.min_le_right _ _
    have hm2 : n + m ≤ P.length := by omega
    have hn0 : 0 < n := HI.out.1 (by omega)
    have hm0 : 0 < m := by rw [hm]; exact Nat.lt_min.2 ⟨hn0, by omega⟩
    obtain ⟨c, hc, hnc⟩ : ∃ c, c ≤ k ∧ n = c * l0.length := by
     rcases HI.out.2 with h | h
     ·omega
     exact h
    have hper : P.take (n + m) = P.take n ++ P.take m := by
     rw [hnc]
     refine HPER.out c m hc ?_
     have h1 := HPL.out
     rw [Nat.sub_mul, ← h1, ← hnc]
     omega
    have hXl : (P.take m).length = m := by rw [List.length_take]; omega
    have e1 := repC_splice P (P.take m) n (by rw [hXl]; exact hm2) (by rw [hXl]; exact hper)
    rw [hXl] at e1
    have HS := zA e1
    have HN := zA (show (nums .i64 (P.take m)).length = Nat.min n (P.length - n) by rw [numsL, hXl, hm])
    have HFT := zA (show n + (nums .i64 (P.take m)).length ≤ (repC P n).length by rw [numsL, hXl, repC_length P n hn]; exact hm2)
    have HON := zA (numsOne (k := .i64) (P.take m))
    have HCE := zA (fun j v (h : (nums .i64 (P.take m))[j]? = some v) => (by
     obtain ⟨h1, rfl⟩ := nums_at h
     rw [hXl] at h1
     have e2 : (P.take m).getD j 0 = P.getD j 0 := by simp [List.getD_eq_getElem?_getD, List.getElem?_take, h1]
     rw [repC_cell HG.out j (by omega) hn, e2] : wr.cell? ⟨w.heap.size, j, none⟩ = some v))
    have HMM := zA hm
    have HCD := zA (fun j v (h : (nums .i64 (P.take m))[j]? = some v) => (by rw [add_plain]; exact HCE.out j v h : wr.cell? ((⟨w.heap.size, 0, none⟩ : Addr).add j) = some v))
    have HXl := zA hXl
    have HCN := zA (show ∃ c, c ≤ k ∧ n = c * l0.length from ⟨c, hc, hnc⟩)
    clear e1 hper hXl hm HI hnc hc
    have hne : ¬ P.length = n := by omega
    have hnz : (n : Int) ≤ (P.length : Int) := by omega
    go_wp2
    go_region_law (refine step_copy_splice rfl (.tmp 41) (.tmp 44) 22 22 rfl 2 Tryd.underlying22 hsz (some ⟨w.heap.size, n, none⟩) (some ⟨w.heap.size, 0, none⟩) (P.length - n) (P.length - n) n P.length (by simp [Act.eval, Act.put]) (by simp [Act.eval, Act.put]) w.heap.size n (repC P n) 2 ?g1 (nums .i64 (P.take m)) HN.out ?g2 HFT.out HON.out w.heap.size w ?g3 (Nat.le_refl _) ?_; (case g1 => first | with_reducible exact HG.out | with_reducible exact zK HG.out | with_reducible exact zK (zK HG.out)); (case g2 => exact fun _ => ⟨rfl, _, rfl, fun j v h => (HCD.out j v h : _)⟩); (case g3 => first | with_reducible exact HB.out | with_reducible exact zD HB.out | with_reducible exact zD (zD HB.out)); intro w4 hg4 hb4)
    have HG4 : Aside0 (w4.heap[w.heap.size]? = some (.cells (repC P (n + m)).toArray 2 (0, 0))) := ⟨by rw [← HS.out]; exact hg4.out⟩
    have HB4 := zA hb4
    clear hg4 hb4
    go_wp2
    go_roundg (P.length - (n + m))
    case measure => omega
    case rel =>
     refine ⟨n + m, hm2, by omega, ?_, ⟨fun _ => by omega, ?_⟩, HG4, HB4⟩
     ·have h2 : (nums .i64 (P.take m)).length = m := by rw [numsL]; exact HXl.out
      have h3 : IntKind.i64.wrap ((n : Int) + (m : Int)) = ((n + m : Nat) : Int) := by rw [IntKind.wrap_i64]; omega
      rw [h2]
      first | rw [h3] | (simp only [Int.natCast_add] at h3 ⊢; rw [h3])
     have h1 := HMM.out
     by_cases g : n ≤ P.length - n
     ·right
      obtain ⟨c, hc, hnc⟩ := HCN.out
      have h2 : m = n := by rw [h1]; exact Nat.min_eq_left g
      refine ⟨c + c, ?_, by rw [h2, Nat.add_mul]; omega⟩
      have h3 := HPL.out
      by_cases l0z : l0.length = 0
      ·rw [l0z] at hnc; omega
      have h4 : (c + c) * l0.length ≤ k * l0.length := by rw [← h3, Nat.add_mul]; omega
      exact Nat.le_of_mul_le_mul_right h4 (by omega)
     left
     have h2 : m = P.length - n := by rw [h1]; exact Nat.min_eq_right (by omega)
     omega
   have hge : ¬ (n : Int) < (P.length : Int) := by omega
   obtain rfl : n = P.length := by omega
   go_wp2
   go_ret
   refine ⟨_, rfl, R_of_row (by rw [← repC_full]; exact HG.out) (Nat.le_refl _) trivial (by omega), HB.out⟩
 rw [if_neg hT] at h
 cases h

end Go.Proofs.YtfnnnopbcdiibaaDoor.PAll
