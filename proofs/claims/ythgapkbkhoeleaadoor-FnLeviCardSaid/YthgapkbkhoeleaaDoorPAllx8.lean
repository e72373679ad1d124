-- Printed by a program of the session (wip/tools/pgen.py) out of the translation. Not trusted: Lean checks it.
import Derived.Test.YthgapkbkhoeleaaDoorPAllx0
import Derived.Test.YthgapkbkhoeleaaDoorPAllx1
namespace Go.Proofs.YthgapkbkhoeleaaDoor.PAll
open Go.RowKit Go.Proofs.YthgapkbkhoeleaaDoor.T Go.Proofs.YthgapkbkhoeleaaDoorW.PrintWords Go.Proofs.YthgapkbkhoeleaaDoorW.PrintLast Go.Proofs.YthgapkbkhoeleaaDoorW.PrintMore
attribute [local go_sem] max2_int min2_int max_two min_two max_three min_three max_four min_four   -- for this text's walks alone
set_option linter.unusedVariables false
set_option linter.unusedSimpArgs false

/-! ### laws_big: function 40 -/
def laws_big.f (l0 : List Int) : Option (Bool) := some (decide ((l0.length : Int) > 4096))
set_option maxHeartbeats 8000000 in
set_option maxRecDepth 100000 in
theorem laws_big.calls (A0 : Option Addr) (c0 : Nat) (l0 : List Int) (r : Bool) (w : World) (hr0 : Kd.C (Kd.int .u8) w A0 l0.length l0) (hc0 : l0.length ≤ c0) (h : laws_big.f l0 = some r) :
  Calls Tryd.prog 40 #[.slice A0 l0.length c0] w fun e w' => e = .returned (.bool r) ∧ Drawn0 w w' := by
 have HR0 := zA hr0
 have HC0 := zA hc0
 clear hr0 hc0
 have H := h
 unfold laws_big.f at H
 clear h
 obtain rfl := Option.some.inj H
 go_enter Tryd.func40, Tryd.ntmps40
 go_wp2
 go_ret
 exact ⟨zs, by repeat (first | exact Drawn0.refl _ | apply Drawn0.step)⟩

/-- A state of type 140 at block g of W; what its slices lead to came in by w0. -/
def Z140 (w0 W : World) (g : Nat) (f0 : List Int) (f1 : Int) (f2 : Int) : Prop := ∃ A0 c0, W.heap[g]? = some (.cells #[.slice A0 f0.length c0, .int .i64 f1, .int .u64 f2] 140 (0, 0)) ∧ w0.heap.size ≤ g ∧ Kd.C (Kd.int .u8) w0 A0 f0.length f0
theorem Z140.grown {w0 W : World} {g : Nat} {f0 : List Int} {f1 : Int} {f2 : Int} {W1 : World} {row : Option Nat} (h : Z140 w0 W g f0 f1 f2) (hw : W.grownBy W1 row) (hne : some g ≠ row) : Z140 w0 W1 g f0 f1 f2 := by
 obtain ⟨A0, c0, hb, hg, hr0⟩ := h
 exact ⟨A0, c0, blk_grown hb hw hne, hg, hr0⟩
theorem Z140.own_neN {w0 W : World} {g : Nat} {f0 : List Int} {f1 : Int} {f2 : Int} {α : Type} {d : Kd α} {e : Nat} {base : Nat} {ok : Nat → Prop} {v : Value} {xs : List α} (h : Z140 w0 W g f0 f1 f2) (ho : Kd.N d e W base ok v xs) (ht : e ≠ 140) : some g ≠ v.ownBlock := by
 obtain ⟨A0, c0, hb, hg, hr0⟩ := h
 exact Kd.N_ne ho hb ht
theorem Z140.fresh {w0 W : World} {g : Nat} {f0 : List Int} {f1 : Int} {f2 : Int} (h : Z140 w0 W g f0 f1 f2) : ∀ k, W.heap.size ≤ k → k ≠ g := by
 obtain ⟨A0, c0, hb, hg, hr0⟩ := h
 exact jE hb
theorem Z140.kept {w0 W : World} {g : Nat} {f0 : List Int} {f1 : Int} {f2 : Int} {W1 : World} {S : Nat → Prop} (h : Z140 w0 W g f0 f1 f2) (hk : Kept W W1 S) (hne : ¬ S g) : Z140 w0 W1 g f0 f1 f2 := by
 obtain ⟨A0, c0, hb, hg, hr0⟩ := h
 exact ⟨A0, c0, blk_kept hb hk hne, hg, hr0⟩
theorem Z140.below {w0 W : World} {g : Nat} {f0 : List Int} {f1 : Int} {f2 : Int} {W1 : World} (h : Z140 w0 W g f0 f1 f2) (hw : Below W.heap.size W W1) : Z140 w0 W1 g f0 f1 f2 := h.grown (grown_of_below hw none) (by simp)
theorem Z140.alloc {w0 W : World} {g : Nat} {f0 : List Int} {f1 : Int} {f2 : Int} (h : Z140 w0 W g f0 f1 f2) (o : Obj) : Z140 w0 (W.alloc o) g f0 f1 f2 := h.below (zB (kW _ _) o)
theorem Z140.drewN {w0 W : World} {g : Nat} {f0 : List Int} {f1 : Int} {f2 : Int} (h : Z140 w0 W g f0 f1 f2) (m : Nat) : Z140 w0 (W.drewN m) g f0 f1 f2 := h
theorem Z140.drew {w0 W : World} {g : Nat} {f0 : List Int} {f1 : Int} {f2 : Int} (h : Z140 w0 W g f0 f1 f2) : Z140 w0 W.drew g f0 f1 f2 := h
theorem Z140.at_ {w0 W : World} {g : Nat} {f0 : List Int} {f1 : Int} {f2 : Int} {w' : World} {m : Nat} (hq : W.drewN m = w') (h : Z140 w0 W g f0 f1 f2) : Z140 w0 w' g f0 f1 f2 := by subst hq; exact Z140.drewN h m
theorem Z140.apart {w0 W : World} {g : Nat} {f0 : List Int} {f1 : Int} {f2 : Int} {α : Type} {d : Kd α} {e : Nat} {base : Nat} {ok : Nat → Prop} {v : Value} {xs : List α} (h : Z140 w0 W g f0 f1 f2) (ho : d.R e W base ok v xs) (ht : ∀ q, q ∈ e :: d.E → q ≠ 140) : d.R e W base (fun k => ok k ∧ k ≠ g) v xs := by
 obtain ⟨A0, c0, hb, hg, hr0⟩ := h
 exact kD ho hb ht
theorem Z140.own_ne {w0 W : World} {g : Nat} {f0 : List Int} {f1 : Int} {f2 : Int} {α : Type} {d : Kd α} {e : Nat} {base : Nat} {ok : Nat → Prop} {v : Value} {xs : List α} (h : Z140 w0 W g f0 f1 f2) (ho : d.R e W base ok v xs) (ht : e ≠ 140) : some g ≠ v.ownBlock := by
 obtain ⟨A0, c0, hb, hg, hr0⟩ := h
 exact Kd.R_ne ho hb ht
theorem Z140.apartQ {w0 W : World} {g : Nat} {f0 : List Int} {f1 : Int} {f2 : Int} {α : Type} {d : Kd α} {e : Nat} {base : Nat} {ok : Nat → Prop} {v : Value} {xs : List α} (h : Z140 w0 W g f0 f1 f2) (ho : d.Q e W base ok v xs) (ht : ∀ q, q ∈ e :: d.E → q ≠ 140) : d.Q e W base (fun k => ok k ∧ k ≠ g) v xs := by
 obtain ⟨A0, c0, hb, hg, hr0⟩ := h
 exact Kd.Q_types ho hb ht
theorem Z140.own_neQ {w0 W : World} {g : Nat} {f0 : List Int} {f1 : Int} {f2 : Int} {α : Type} {d : Kd α} {e : Nat} {base : Nat} {ok : Nat → Prop} {v : Value} {xs : List α} (h : Z140 w0 W g f0 f1 f2) (ho : d.Q e W base ok v xs) (ht : e ≠ 140) : some g ≠ v.ownBlock := by
 obtain ⟨A0, c0, hb, hg, hr0⟩ := h
 exact Kd.Q_ne ho hb ht
theorem Z140.apartS {w0 W : World} {g : Nat} {f0 : List Int} {f1 : Int} {f2 : Int} {α : Type} {d : Kd α} {e : Nat} {base : Nat} {ok : Nat → Prop} {v : Value} {xs : List α} (h : Z140 w0 W g f0 f1 f2) (ho : d.S e W base ok v xs) (ht : ∀ q, q ∈ e :: d.E → q ≠ 140) : d.S e W base (fun k => ok k ∧ k ≠ g) v xs := by
 obtain ⟨A0, c0, hb, hg, hr0⟩ := h
 exact Kd.S_types ho hb ht
theorem Z140.own_neS {w0 W : World} {g : Nat} {f0 : List Int} {f1 : Int} {f2 : Int} {α : Type} {d : Kd α} {e : Nat} {base : Nat} {ok : Nat → Prop} {v : Value} {xs : List α} (h : Z140 w0 W g f0 f1 f2) (ho : d.S e W base ok v xs) (ht : e ≠ 140) : some g ≠ v.ownBlock := by
 obtain ⟨A0, c0, hb, hg, hr0⟩ := h
 exact Kd.S_ne ho hb ht
theorem Z140.lt {w0 W : World} {g : Nat} {f0 : List Int} {f1 : Int} {f2 : Int} (h : Z140 w0 W g f0 f1 f2) : g < W.heap.size := by
 obtain ⟨A0, c0, hb, hg, hr0⟩ := h
 exact jI hb
theorem Z140.ge {w0 W : World} {g : Nat} {f0 : List Int} {f1 : Int} {f2 : Int} (h : Z140 w0 W g f0 f1 f2) : w0.heap.size ≤ g := by
 obtain ⟨A0, c0, hb, hg, hr0⟩ := h
 exact hg
theorem Z140.ne_blk {w0 W : World} {g : Nat} {f0 : List Int} {f1 : Int} {f2 : Int} {a : Nat} {cs : Array Value} {t : TypeId} {fr : Nat × Nat} (h : Z140 w0 W g f0 f1 f2) (hb2 : W.heap[a]? = some (.cells cs t fr)) (ht : t ≠ 140) : g ≠ a := by
 obtain ⟨A0, c0, hb, hg, hr0⟩ := h
 rintro rfl
 rw [hb] at hb2
 injection hb2 with hb2
 injection hb2 with _ ht2
 exact ht ht2.symm
theorem Z140.far {w0 W : World} {g : Nat} {f0 : List Int} {f1 : Int} {f2 : Int} {p : Addr} (h : Z140 w0 W g f0 f1 f2) (hne : g ≠ p.block) (u : Value) : Z140 w0 (W.setCell p u) g f0 f1 f2 := by
 obtain ⟨A0, c0, hb, hg, hr0⟩ := h
 exact ⟨A0, c0, blk_far hb hne u, hg, hr0⟩
theorem cellS140_0 {W : World} {g : Nat} {A0 : Option Addr} {c0 : Nat} {f0 : List Int} {f1 : Int} {f2 : Int} (h : W.heap[g]? = some (.cells #[.slice A0 f0.length c0, .int .i64 f1, .int .u64 f2] 140 (0, 0))) : W.cell? ⟨g, 0, none⟩ = some (.slice A0 f0.length c0) := (kV h 0).trans rfl
theorem cellS140_1 {W : World} {g : Nat} {A0 : Option Addr} {c0 : Nat} {f0 : List Int} {f1 : Int} {f2 : Int} (h : W.heap[g]? = some (.cells #[.slice A0 f0.length c0, .int .i64 f1, .int .u64 f2] 140 (0, 0))) : W.cell? ⟨g, 1, none⟩ = some (.int .i64 f1) := (kV h 1).trans rfl
theorem Z140.set_1 {w0 W : World} {g : Nat} {f0 : List Int} {f1 : Int} {f2 : Int} (h : Z140 w0 W g f0 f1 f2) (x : Int) : Z140 w0 (W.setCell ⟨g, 1, none⟩ (.int .i64 x)) g f0 x f2 := by
 obtain ⟨A0, c0, hb, hg, hr0⟩ := h
 exact ⟨A0, c0, by simpa using blk_set hb 1 (.int .i64 x), hg, hr0⟩
theorem cellS140_2 {W : World} {g : Nat} {A0 : Option Addr} {c0 : Nat} {f0 : List Int} {f1 : Int} {f2 : Int} (h : W.heap[g]? = some (.cells #[.slice A0 f0.length c0, .int .i64 f1, .int .u64 f2] 140 (0, 0))) : W.cell? ⟨g, 2, none⟩ = some (.int .u64 f2) := (kV h 2).trans rfl
theorem Z140.set_2 {w0 W : World} {g : Nat} {f0 : List Int} {f1 : Int} {f2 : Int} (h : Z140 w0 W g f0 f1 f2) (x : Int) : Z140 w0 (W.setCell ⟨g, 2, none⟩ (.int .u64 x)) g f0 f1 x := by
 obtain ⟨A0, c0, hb, hg, hr0⟩ := h
 exact ⟨A0, c0, by simpa using blk_set hb 2 (.int .u64 x), hg, hr0⟩
theorem Z140.new (w0 W : World) (A0 : Option Addr) (c0 : Nat) (f0 : List Int) (f1 : Int) (f2 : Int) (hB : Below w0.heap.size w0 W) (hr0 : Kd.C (Kd.int .u8) w0 A0 f0.length f0) : Z140 w0 (W.alloc (.cells #[.slice A0 f0.length c0, .int .i64 f1, .int .u64 f2] 140)) W.heap.size f0 f1 f2 := ⟨A0, c0, by simpa using heap_alloc_new W _, hB.size, hr0⟩
theorem Z140.uA {p q : Prop} (h : p) (hh : p → q := by intro h; repeat (first | (with_reducible first | exact h | apply Z140.alloc | apply Z140.drewN | apply Z140.drew | apply Z140.set_1 | apply Z140.set_2) | exact h)) : q := hh h
theorem Z140.uB {p q a : Prop} (h : p) (g : a) (hh : p → a → q := by intro h g; repeat (first | (with_reducible first | exact h | apply Z140.alloc | apply Z140.drewN | apply Z140.drew | apply Z140.set_1 | apply Z140.set_2 | refine Z140.far ?_ g _) | exact h)) : q := hh h g
theorem Z140.uC {p q a b : Prop} (h : p) (g : a) (k : b) (hh : p → a → b → q := by intro h g k; repeat (first | (with_reducible first | exact h | apply Z140.alloc | apply Z140.drewN | apply Z140.drew | apply Z140.set_1 | apply Z140.set_2 | refine Z140.far ?_ g _ | refine Z140.far ?_ k _) | exact h)) : q := hh h g k
theorem Z140.below_keepW {w0 w w1 w2 : World} {g : Nat} (h0 : Below w0.heap.size w0 w) (h1 : Below w.heap.size w w1) (hk : KeepBut w1 w2 g none) (hb : Below w0.heap.size w0 w2) (hg : w.heap.size ≤ g) : Below w.heap.size w w2 := ⟨hb.os.trans h0.os.symm, hb.tape.trans h0.tape.symm, hb.output.trans h0.output.symm, Nat.le_trans h1.size hk.1, fun k hk2 => (hk.2 k (Nat.lt_of_lt_of_le hk2 h1.size) (by omega) (by simp)).trans (h1.block k hk2)⟩


/-! ### spec_l01Next: function 128 -/
def spec_l01Next.f (s0_0 : List Int) (s0_1 : Int) (s0_2 : Int) (a1 : Int) : Option (Int × Int × Int) := if a1 < 1 then (some (0, s0_1, s0_2)) else (if s0_1 < (s0_0.length : Int) then (if 0 ≤ s0_1 then (if a1 = 0 then (none) else (some (Int.tmod (wrap64 ((wrap64 (Go.bits .and .u64 ((IntKind.u64.wrap ((IntKind.u64.wrap (s0_2 * 6364136223846793005)) + 1442695040888963407)) / 8589934592) 16777215)) + (wrap64 (rd s0_0 s0_1)))) a1, wrap64 (s0_1 + 1), IntKind.u64.wrap ((IntKind.u64.wrap (s0_2 * 6364136223846793005)) + 1442695040888963407)))) else (none)) else (if a1 = 0 then (none) else (some (Int.tmod (wrap64 (Go.bits .and .u64 ((IntKind.u64.wrap ((IntKind.u64.wrap (s0_2 * 6364136223846793005)) + 1442695040888963407)) / 8589934592) 16777215)) a1, s0_1, IntKind.u64.wrap ((IntKind.u64.wrap (s0_2 * 6364136223846793005)) + 1442695040888963407)))))
set_option maxHeartbeats 8000000 in
set_option maxRecDepth 100000 in
theorem spec_l01Next.calls (g : Nat) (s0_0 : List Int) (s0_1 : Int) (s0_2 : Int) (a1 : Int) (r1 : Int) (r2 : Int) (r3 : Int) (w0 w : World) (hI : Z140 w0 w g s0_0 s0_1 s0_2) (hB : Below w0.heap.size w0 w) (h : spec_l01Next.f s0_0 s0_1 s0_2 a1 = some (r1, r2, r3)) :
  Calls Tryd.prog 128 #[.pointer (some ⟨g, 0, none⟩), .int .i64 a1] w fun e w' => e = .returned (.int .i64 r1) ∧ Z140 w0 w' g s0_0 r2 r3 ∧ Below w0.heap.size w0 w' ∧ KeepBut w w' g none := by
 have HI0 := zA hI
 have HK := zA (KeepBut.refl w g none)
 have HL := zA hB.size
 clear hI
 have HW0 := zA hB.size
 have HB := zA hB
 clear hB
 have H := h
 unfold spec_l01Next.f at H
 clear h
 by_cases c3 : a1 < 1
 ·rw [if_pos c3] at H
  have c3b0 : decide (a1 < 1) = true := decide_eq_true c3
  clear c3
  simp only [Option.some.injEq, Prod.mk.injEq] at H
  obtain ⟨rfl, rfl, rfl⟩ := H
  go_enter Tryd.func128, Tryd.ntmps128
  go_wp2
  repeat (go_quiet (fail); try go_wp2)
  go_ret
  exact ⟨zr, by repeat (first | (with_reducible first | exact HI0.out | apply Z140.alloc | apply Z140.drewN | apply Z140.drew | apply Z140.set_1 | apply Z140.set_2) | exact HI0.out), zT HB.out (Z140.ge HI0.out), by repeat (first | (with_reducible first | exact HK.out | apply KeepBut.set_ | apply keep_drewN | apply keep_drew | apply keep_alloc) | exact HK.out)⟩
 rw [if_neg c3] at H
 have c3b0 : decide (a1 < 1) = false := decide_eq_false c3
 clear c3
 by_cases c4 : s0_1 < (s0_0.length : Int)
 ·rw [if_pos c4] at H
  have c4b0 : decide (s0_1 < (s0_0.length : Int)) = true := decide_eq_true c4
  clear c4
  by_cases c5 : 0 ≤ s0_1
  ·rw [if_pos c5] at H
   have c5b0 : decide (0 ≤ s0_1) = true := decide_eq_true c5
   clear c5
   by_cases c6 : a1 = 0
   ·rw [if_pos c6] at H
    exact absurd H (by simp)
   rw [if_neg c6] at H
   obtain ⟨c6b0, c6b1⟩ := zT2 c6
   simp only [Option.some.injEq, Prod.mk.injEq] at H
   obtain ⟨rfl, rfl, rfl⟩ := H
   obtain ⟨ASz7_0, cSz7_0, HGz7, hgz7, HSz7_0⟩ := HI0.out
   have hcz7_0 := cellS140_0 HGz7
   have hcz7_1 := cellS140_1 HGz7
   have hcz7_2 := cellS140_2 HGz7
   have hfz7_1 := jH HGz7 1
   have hfz7_2 := jH HGz7 2
   clear HGz7 hgz7
   have p388 : 0 ≤ (s0_1 : Int) := zd
   have q388 : s0_1 < (s0_0.length : Int) := zd
   obtain ⟨ad388, e388, hx388_0⟩ := Kd.at_int HSz7_0 s0_1 p388 q388
   cases e388
   have hn388_0 : ad388.block ≠ g := Nat.ne_of_lt (Nat.lt_of_lt_of_le (by have := jG _ _ hx388_0; first | rwa [add_block] at this | exact this) (Z140.ge HI0.out))
   replace hx388_0 := pw_cell_below HB.out hx388_0
   replace hx388_0 := (cell_far (p := ⟨g, 2, none⟩) (by first | (rw [add_block]; exact hn388_0) | (show (Addr.add _ _).block ≠ _; rw [add_block]; exact hn388_0) | exact hn388_0) (.int .u64 (IntKind.u64.wrap ((IntKind.u64.wrap (s0_2 * 6364136223846793005)) + 1442695040888963407)))).trans hx388_0
   (try have hy388_0 := fun (n_ : Nat) => (show (((w.drewN n_).setCell ⟨g, 2, none⟩ (.int .u64 (IntKind.u64.wrap ((IntKind.u64.wrap (s0_2 * 6364136223846793005)) + 1442695040888963407))))).cell? _ = some _ from hx388_0))
   clear hn388_0
   replace p388 := eq_true p388
   replace q388 := eq_true q388
   go_enter Tryd.func128, Tryd.ntmps128
   go_wp2
   repeat (go_quiet (fail); try go_wp2)
   go_ret
   exact ⟨zr, by repeat (first | (with_reducible first | exact HI0.out | apply Z140.alloc | apply Z140.drewN | apply Z140.drew | apply Z140.set_1 | apply Z140.set_2) | exact HI0.out), zT HB.out (Z140.ge HI0.out), by repeat (first | (with_reducible first | exact HK.out | apply KeepBut.set_ | apply keep_drewN | apply keep_drew | apply keep_alloc) | exact HK.out)⟩
  rw [if_neg c5] at H
  exact absurd H (by simp)
 rw [if_neg c4] at H
 have c4b0 : decide (s0_1 < (s0_0.length : Int)) = false := decide_eq_false c4
 clear c4
 by_cases c8 : a1 = 0
 ·rw [if_pos c8] at H
  exact absurd H (by simp)
 rw [if_neg c8] at H
 obtain ⟨c8b0, c8b1⟩ := zT2 c8
 simp only [Option.some.injEq, Prod.mk.injEq] at H
 obtain ⟨rfl, rfl, rfl⟩ := H
 obtain ⟨ASz9_0, cSz9_0, HGz9, hgz9, HSz9_0⟩ := HI0.out
 have hcz9_0 := cellS140_0 HGz9
 have hcz9_1 := cellS140_1 HGz9
 have hcz9_2 := cellS140_2 HGz9
 have hfz9_1 := jH HGz9 1
 have hfz9_2 := jH HGz9 2
 clear HGz9 hgz9
 go_enter Tryd.func128, Tryd.ntmps128
 go_wp2
 repeat (go_quiet (fail); try go_wp2)
 go_ret
 exact ⟨zr, by repeat (first | (with_reducible first | exact HI0.out | apply Z140.alloc | apply Z140.drewN | apply Z140.drew | apply Z140.set_1 | apply Z140.set_2) | exact HI0.out), zT HB.out (Z140.ge HI0.out), by repeat (first | (with_reducible first | exact HK.out | apply KeepBut.set_ | apply keep_drewN | apply keep_drew | apply keep_alloc) | exact HK.out)⟩

/-! ### spec_l01From: function 130 -/
def spec_l01From.l0 : Nat → List Int → Int → List Int → Int → Int → Option (List Int × Int × Int)
 | 0, _, _, _, _, _ => none
 | k + 1, x0, x4, x390000, x390001, x390002 => if x4 < (x0.length : Int) then (if x4 < 4096 then (if 0 ≤ x4 then (spec_l01From.l0 k x0 (wrap64 (x4 + 1)) x390000 x390001 (IntKind.u64.wrap ((IntKind.u64.wrap ((IntKind.u64.wrap (x390002 * 1099511628211)) + (IntKind.u64.wrap (rd x0 x4)))) + 11))) else (none)) else (some (x390000, x390001, x390002))) else (some (x390000, x390001, x390002))
def spec_l01From.f (k : Nat) (l0 : List Int) : Option (List Int × Int × Int) := spec_l01From.l0 k l0 0 l0 0 (IntKind.u64.wrap (9341 + (IntKind.u64.wrap ((l0.length : Int)))))

def spec_l01From.T5 : Bool × List (List Nat × List Nat) := (true, [([], []), ([], []), ([1], [1]), ([2], [2]), ([3], [3]), ([4], [4]), ([], []), ([], []), ([6, 7], [6, 7]), ([8], [8]), ([9], [9]), ([5, 10], [5, 10]), ([11], [11]), ([0, 0, 1, 2, 3, 4, 5, 6, 7, 8, 9, 10, 11, 12], [0]), ([13, 0, 1, 2, 3, 4, 5, 6, 7, 8, 9, 10, 11, 12], [13]), ([14, 12, 0, 1, 2, 3, 4, 5, 6, 7, 8, 9, 10, 11, 12], [12, 14])])
def spec_l01From.B5 : List Nat := [0, 0, 2, 6, 14, 30, 0, 0, 192, 448, 960, 2046, 4094, 8191, 16383, 32767]
theorem spec_l01From.tab5 : rtab .any (opsOf Tryd.f130 5) = spec_l01From.T5 := by kernel_rfl
theorem spec_l01From.bits5 : waitsOk spec_l01From.T5.2 spec_l01From.B5 = true := by kernel_rfl
set_option maxHeartbeats 8000000 in
set_option maxRecDepth 100000 in
theorem spec_l01From.calls (k : Nat) (A0 : Option Addr) (c0 : Nat) (l0 : List Int) (r1 : List Int) (r2 : Int) (r3 : Int) (w0 w : World) (hB : Below w0.heap.size w0 w) (hr0 : Kd.C (Kd.int .u8) w0 A0 l0.length l0) (hc0 : l0.length ≤ c0) (h : spec_l01From.f k l0 = some (r1, r2, r3)) :
  Calls Tryd.prog 130 #[.slice A0 l0.length c0] w fun e w' => ∃ g_ : Nat, e = .returned (.pointer (some ⟨g_, 0, none⟩)) ∧ Z140 w0 w' g_ r1 r2 r3 ∧ Below w0.heap.size w0 w' ∧ Below w.heap.size w w' ∧ w.heap.size ≤ g_ := by
 have hu140 := Tryd.underlying140
 have HR0 := zA hr0
 have HC0 := zA hc0
 clear hr0 hc0
 have HBW := zA (kW w.heap.size w)
 have HB00 := zA hB
 have HW0 := zA hB.size
 have HB := zA hB
 clear hB
 have H := h
 unfold spec_l01From.f at H
 clear h
 have H' := zA H
 clear H
 go_enter Tryd.func130, Tryd.ntmps130
 go_wp2_with (first | (refine zBE 11 #[.slice A0 l0.length c0, .int .i64 0, .int .u64 (IntKind.u64.wrap (9341 + (IntKind.u64.wrap ((l0.length : Int)))))] 140 ?_; intro gb389 hg w2 hbox hb; replace HB := zA (kQ (zQ HB.out) hb); have BK389 := zA (hbox); have GW389 := zA (zBH hg HBW.out); have GE389 := zA ((Nat.le_trans HW0.out (by rw [hg]; exact (kP (zQ HBW.out)) : w.heap.size ≤ gb389) : w0.heap.size ≤ gb389)); replace HBW := zA (kQ HBW.out hb); clear hb hbox hg))
 go_loopg [4] k (fun kq v4 w' => ∃ (x4_1 : Int) (x390002_1 : Int), v4 = .int .i64 x4_1 ∧ Aside0 (spec_l01From.l0 kq l0 x4_1 l0 0 x390002_1 = some (r1, r2, r3)) ∧ Aside0 (kq ≤ k) ∧ Aside0 (w'.heap[gb389]? = some (.cells #[(.slice A0 l0.length c0), .int .i64 0, .int .u64 x390002_1] 140 (0, 0))) ∧ Aside0 (Below w0.heap.size w0 w') ∧ Aside0 (Below w.heap.size w w'))
 case atStart => exact ⟨(0), (IntKind.u64.wrap (9341 + (IntKind.u64.wrap ((l0.length : Int))))), zs, H', ⟨Nat.le_refl _⟩, ⟨zR BK389.out⟩, ⟨zT HB.out GE389.out⟩, ⟨zT HBW.out GW389.out⟩⟩
 case round =>
  clear H'
  try clear c1
  obtain ⟨x4_1, x390002_1, rfl, HA, HK1, BK389, HB, HBW⟩ := hrel
  cases gk with
  | zero => exact absurd HA.out (by simp [spec_l01From.l0])
  | succ k1 =>
   have H := HA.out
   clear HA
   simp only [spec_l01From.l0] at H
   by_cases c3 : x4_1 < (l0.length : Int)
   ·rw [if_pos c3] at H
    have c3b0 : decide (x4_1 < (l0.length : Int)) = true := decide_eq_true c3
    clear c3
    by_cases c4 : x4_1 < 4096
    ·rw [if_pos c4] at H
     have c4b0 : decide (x4_1 < 4096) = true := decide_eq_true c4
     clear c4
     by_cases c5 : 0 ≤ x4_1
     ·rw [if_pos c5] at H
      have c5b0 : decide (0 ≤ x4_1) = true := decide_eq_true c5
      clear c5
      have H' := zA H
      clear H
      try go_wp2
      have n0_ := zA (zK BK389.out)
      have n1_ := zA (zD HB.out)
      have n1w_ := zA (zD HBW.out)
      clear BK389 HB HBW
      have BK389 := n0_
      have HB := n1_
      have HBW := n1w_
      clear n0_ n1_
      have p390 : 0 ≤ (x4_1 : Int) := zd
      have q390 : x4_1 < (l0.length : Int) := zd
      obtain ⟨ad390, e390, hx390_0⟩ := Kd.at_int HR0.out x4_1 p390 q390
      have hw390_0 := hx390_0
      cases e390
      replace hx390_0 := pw_cell_below HB.out hx390_0
      replace p390 := eq_true p390
      replace q390 := eq_true q390
      refine start_ (n := 16) (S := fun w' => w'.cell? ⟨gb389, 0, none⟩ = some (.slice (some ad390) l0.length c0) ∧ w'.cell? ⟨gb389, 1, none⟩ = some (.int .i64 0) ∧ w'.cell? ⟨gb389, 2, none⟩ = some (.int .u64 x390002_1) ∧ w'.cell? (ad390.add (x4_1).toNat) = some (.int .u8 (rd l0 x4_1))) (ds := [15]) #[false, false, false, false, false, false, false, false, false, false, false, false, false, false, false, false] (by kernel_rfl) rfl rfl ⟨(kV BK389.out 0).trans rfl, (kV BK389.out 1).trans rfl, (kV BK389.out 2).trans rfl, (pw_cell_below HB.out hw390_0)⟩ (fun hHeld => ?_); refine with_tabW spec_l01From.tab5 spec_l01From.bits5 (fun HT_ HW_ => ?_)
      generalize wr.drew = w6 at BK389 HB HBW hx390_0 hHeld ⊢
      refine zp 0 (some 22) #[true, false, false, false, false, false, false, false, false, false, false, false, false, false, false, false] HT_.out ?_
      refine zp 1 (some 23) #[true, true, false, false, false, false, false, false, false, false, false, false, false, false, false, false] HT_.out ?_
      refine zp 2 (some 24) #[true, true, true, false, false, false, false, false, false, false, false, false, false, false, false, false] HT_.out ?_
      refine zp 3 (some 25) #[true, true, true, true, false, false, false, false, false, false, false, false, false, false, false, false] HT_.out ?_
      refine zp 6 (some 28) #[true, true, true, true, false, false, true, false, false, false, false, false, false, false, false, false] HT_.out ?_
      refine zp 7 (some 29) #[true, true, true, true, false, false, true, true, false, false, false, false, false, false, false, false] HT_.out ?_
      refine zp 8 (some 30) #[true, true, true, true, false, false, true, true, true, false, false, false, false, false, false, false] HT_.out ?_
      refine zf 4 (some 26) #[true, true, true, true, true, false, true, true, true, false, false, false, false, false, false, false] HT_.out HW_.out hHeld ?_
      refine zp 5 (some 27) #[true, true, true, true, true, true, true, true, true, false, false, false, false, false, false, false] HT_.out ?_
      refine zf 9 (some 31) #[true, true, true, true, true, true, true, true, true, true, false, false, false, false, false, false] HT_.out HW_.out hHeld ?_
      refine zp 10 (some 32) #[true, true, true, true, true, true, true, true, true, true, true, false, false, false, false, false] HT_.out ?_
      refine zp 11 (some 33) #[true, true, true, true, true, true, true, true, true, true, true, true, false, false, false, false] HT_.out ?_
      refine zp 12 (some 34) #[true, true, true, true, true, true, true, true, true, true, true, true, true, false, false, false] HT_.out ?_
      refine zp 13 (some 35) #[true, true, true, true, true, true, true, true, true, true, true, true, true, true, false, false] HT_.out ?_
      refine zp 14 (some 36) #[true, true, true, true, true, true, true, true, true, true, true, true, true, true, true, false] HT_.out ?_
      refine last_ (i := 15) (N := none) #[true, true, true, true, true, true, true, true, true, true, true, true, true, true, true, true] rfl rfl (one_of HT_.out (by kernel_rfl)) (by decide) (fun K hK => ?_)
      have hs7 : w6.cell? ⟨gb389, 2, none⟩ = some (.int .u64 x390002_1) := (kV BK389.out 2).trans rfl
      have hfs7 := jH BK389.out 2
      refine skip_ (w1 := ?_) (by rfl) rfl ?_ ?_
      rotate_left
      ·go_simp
       rfl
      refine hK.out _ _ ?_
      clear hK K
      refine done_ (done_of HT_.out (by kernel_rfl)) ?_
      try go_wp2
      go_roundg k1
      case measure => have := HK1.out; omega
      case rel => exact ⟨(wrap64 (x4_1 + 1)), (IntKind.u64.wrap ((IntKind.u64.wrap ((IntKind.u64.wrap (x390002_1 * 1099511628211)) + (IntKind.u64.wrap (rd l0 x4_1)))) + 11)), zs, H', ⟨by have := HK1.out; omega⟩, ⟨by (with_reducible repeat (first | refine zJ ?_ _ | refine zK ?_ | refine zI ?_ _)); refine blk_put (cs := #[.slice (some ad390) l0.length c0, .int .i64 0, .int .u64 x390002_1]) ?_ 2 _ rfl; (with_reducible repeat (first | refine zJ ?_ _ | refine zK ?_ | refine zI ?_ _)); exact BK389.out⟩, ⟨zT HB.out GE389.out⟩, ⟨zT HBW.out GW389.out⟩⟩
     rw [if_neg c5] at H
     exact absurd H (by simp)
    rw [if_neg c4] at H
    have c4b0 : decide (x4_1 < 4096) = false := decide_eq_false c4
    clear c4
    simp only [Option.some.injEq, Prod.mk.injEq] at H
    obtain ⟨rfl, rfl, rfl⟩ := H
    go_wp2
    go_ret
    exact ⟨_, rfl, (show Z140 w0 _ gb389 l0 0 x390002_1 from ⟨_, _, by (with_reducible repeat (first | refine zJ ?_ _ | refine zK ?_ | refine zI ?_ _)); exact BK389.out, GE389.out, HR0.out⟩), zT HB.out GE389.out, zT HBW.out GW389.out, GW389.out⟩
   rw [if_neg c3] at H
   have c3b0 : decide (x4_1 < (l0.length : Int)) = false := decide_eq_false c3
   clear c3
   simp only [Option.some.injEq, Prod.mk.injEq] at H
   obtain ⟨rfl, rfl, rfl⟩ := H
   go_wp2
   go_ret
   exact ⟨_, rfl, (show Z140 w0 _ gb389 l0 0 x390002_1 from ⟨_, _, by (with_reducible repeat (first | refine zJ ?_ _ | refine zK ?_ | refine zI ?_ _)); exact BK389.out, GE389.out, HR0.out⟩), zT HB.out GE389.out, zT HBW.out GW389.out, GW389.out⟩

/-! ### spec_l01Pick: function 181 -/
def spec_l01Pick.f (s0_0 : List Int) (s0_1 : Int) (s0_2 : Int) (l1 : List Int) : Option (Int × Int × Int) := (spec_l01Next.f s0_0 s0_1 s0_2 (l1.length : Int)).bind fun bt391 => (if 0 ≤ bt391.1 then (if bt391.1 < (l1.length : Int) then (some (rd l1 bt391.1, bt391.2.1, bt391.2.2)) else (none)) else (none))
set_option maxHeartbeats 8000000 in
set_option maxRecDepth 100000 in
theorem spec_l01Pick.calls (g : Nat) (s0_0 : List Int) (s0_1 : Int) (s0_2 : Int) (A1 : Option Addr) (c1 : Nat) (l1 : List Int) (r1 : Int) (r2 : Int) (r3 : Int) (w0 w : World) (hI : Z140 w0 w g s0_0 s0_1 s0_2) (hB : Below w0.heap.size w0 w) (hr1 : Kd.C (Kd.int .i64) w A1 l1.length l1) (hc1 : l1.length ≤ c1) (hf1 : ∀ ad, A1 = some ad → 0 < l1.length → ad.block ≠ g) (h : spec_l01Pick.f s0_0 s0_1 s0_2 l1 = some (r1, r2, r3)) :
  Calls Tryd.prog 181 #[.pointer (some ⟨g, 0, none⟩), .slice A1 l1.length c1] w fun e w' => e = .returned (.int .i64 r1) ∧ Z140 w0 w' g s0_0 r2 r3 ∧ Below w0.heap.size w0 w' ∧ KeepBut w w' g none := by
 have HR1 := zA hr1
 have HC1 := zA hc1
 clear hr1 hc1
 have HI0 := zA hI
 have HK := zA (KeepBut.refl w g none)
 have HL := zA hB.size
 clear hI
 have HW0 := zA hB.size
 have HB := zA hB
 clear hB
 have H := h
 unfold spec_l01Pick.f at H
 clear h
 obtain ⟨⟨t391, t392, t393⟩, A3, H⟩ := zb H
 try dsimp only at H
 by_cases c4 : 0 ≤ t391
 ·rw [if_pos c4] at H
  have c4b0 : decide (0 ≤ t391) = true := decide_eq_true c4
  clear c4
  by_cases c5 : t391 < (l1.length : Int)
  ·rw [if_pos c5] at H
   have c5b0 : decide (t391 < (l1.length : Int)) = true := decide_eq_true c5
   clear c5
   simp only [Option.some.injEq, Prod.mk.injEq] at H
   obtain ⟨rfl, rfl, rfl⟩ := H
   go_enter Tryd.func181, Tryd.ntmps181
   go_wp2_with (first | (refine zO (some 9) Tryd.func128 #[.pointer (some ⟨g, 0, none⟩), .int .i64 (l1.length : Int)] ?_; (with_reducible refine (spec_l01Next.calls g s0_0 s0_1 s0_2 (l1.length : Int) t391 t392 t393 w0 _ ?side1 ?side2 A3.out).mono ?_); (case side1 => exact Z140.uA HI0.out); (case side2 => exact zT HB.out (Z140.ge HI0.out)); rintro e w6 ⟨rfl, hi, hb, hk⟩; refine ⟨_, rfl, ?_⟩; replace HK := zA (kT (yA HK.out) hk (.inl rfl)); replace HB := zA (hb); replace HI0 := zA (hi); (try clear hb); (try clear hk); (try clear hi); have p394 : 0 ≤ (t391 : Int) := zd; have q394 : t391 < (l1.length : Int) := zd; obtain ⟨ad394, e394, hx394_0⟩ := Kd.at_int HR1.out t391 p394 q394; cases e394; replace hx394_0 := keep_cell HK.out hx394_0 (by first | (rw [add_block]; exact hf1 _ rfl (by omega)) | exact hf1 _ rfl (by omega) | exact hf1 ad394 rfl (by omega)); replace p394 := eq_true p394; replace q394 := eq_true q394))
   go_ret
   exact ⟨zr, by repeat (first | (with_reducible first | exact HI0.out | apply Z140.alloc | apply Z140.drewN | apply Z140.drew | apply Z140.set_1 | apply Z140.set_2) | exact HI0.out), zT HB.out (Z140.ge HI0.out), by repeat (first | (with_reducible first | exact HK.out | apply KeepBut.set_ | apply keep_drewN | apply keep_drew | apply keep_alloc) | exact HK.out)⟩
  rw [if_neg c5] at H
  exact absurd H (by simp)
 rw [if_neg c4] at H
 exact absurd H (by simp)

/-! ### spec_l02Free: function 183 -/
def spec_l02Free.l0 : Nat → Int → Int → Int → List Int → Option (Int × List Int)
 | 0, _, _, _, _ => none
 | k + 1, x0, x4, x400000, x400001 => if x4 < x0 then ((spec_l01One.f x4).bind fun t400 => (if x400001.length < 17592186044416 then (spec_l02Free.l0 k x0 (wrap64 (x4 + 1)) x400000 (x400001 ++ [t400])) else (none))) else (some (x400000, x400001))
def spec_l02Free.f (k : Nat) (a0 : Int) : Option (Int × List Int) := spec_l02Free.l0 k a0 0 a0 (([] : List Int))

def spec_l02Free.T5 : Bool × List (List Nat × List Nat) := (true, [([], []), ([0], [0]), ([], []), ([2], [2]), ([3], [3]), ([1, 4, 3], [1, 4]), ([0, 1, 2, 3, 4, 5], []), ([6, 5, 5, 0, 1, 2, 3, 4, 5], [5, 6])])
def spec_l02Free.B5 : List Nat := [0, 1, 0, 4, 12, 31, 63, 127]
theorem spec_l02Free.tab5 : rtab .any (opsOf Tryd.f183 5) = spec_l02Free.T5 := by kernel_rfl
theorem spec_l02Free.bits5 : waitsOk spec_l02Free.T5.2 spec_l02Free.B5 = true := by kernel_rfl
set_option maxHeartbeats 8000000 in
set_option maxRecDepth 100000 in
theorem spec_l02Free.calls (k : Nat) (a0 : Int) (r1 : Int) (r2 : List Int) (w : World) (h : spec_l02Free.f k a0 = some (r1, r2)) :
  Calls Tryd.prog 183 #[.int .i64 a0] w fun e w' => ∃ v1_ : Value, e = .returned (.agg #[.int .i64 r1, v1_]) ∧ Kd.R (Kd.int .i64) 2 w' w.heap.size (fun _ => True) v1_ r2 ∧ Below w.heap.size w w' := by
 have hu29 := Tryd.underlying29
 have HB := zA (kW w.heap.size w)
 have H := h
 unfold spec_l02Free.f at H
 clear h
 obtain ⟨y396, hy396⟩ : ∃ y_ : List Int, y_ = (([] : List Int)) := ⟨_, rfl⟩
 replace H : (spec_l02Free.l0 k a0 0 a0 y396) = some (r1, r2) := zy hy396 H
 have Ny396 := zA hy396
 clear hy396
 have H' := zA H
 clear H
 go_enter Tryd.func183, Tryd.ntmps183
 go_wp2_with (first | (refine zBE 2 #[.int .i64 0, .slice none 0 0] 29 ?_; intro gb395 hg w2 hbox hb; have BK395 := zA (hbox); have GW395 := zA (zBH hg HB.out); have GE395 := zA (zBH hg HB.out); replace HB := zA (kQ (zQ HB.out) hb); clear hb hbox hg) | ((with_reducible refine kS (N := 6) rfl ?_); refine Kd.R_lit (Kd.int .i64) _ 2 ?hg (N := 6) ?hd (xs := ([] : List Int)) (inner := []) (ok := fun _ => True) (okp := fun _ => True) ?hr ?hp (fun _ hk => hk) trivial (kW _ _) (Nat.le_refl _) (by simp) ?_; (case hd => rfl); (case hg => rfl); (case hr => first | (go_simp; done) | (go_simp; rfl)); (case hp => exact (Reps.none _ _)); intro v397 w3 ho4 hb hg_ hnew_; clear hg_ hnew_; (first | rw [← Ny396.out] at ho4 | (simp only [Int.reduceToNat] at ho4; rw [← Ny396.out] at ho4)); have HO398 := zA (kI ho4 (kP (zT HB.out GE395.out))); replace BK395 := zA (zB1 BK395.out hb); replace HB := zA (kQ (zT HB.out GE395.out) hb); clear hb ho4; obtain ⟨Ao5, co5, eo5⟩ := kM HO398.out; subst eo5) | (refine zBE 3 #[.int .i64 0, .slice none 0 0] 29 ?_; intro gb399 hg w6 hbox hb; replace HO398 := zA (kL (zP HO398.out) hb); have BK399 := zA (hbox); have GW399 := zA (zB6 hg (kP (zT HB.out GE395.out)) : w.heap.size ≤ gb399); have GE399 := zA (zB6 hg (kP (zT HB.out GE395.out)) : w.heap.size ≤ gb399); replace HB := zA (kQ (zT HB.out GE395.out) hb); have NB395_399 := zA (zB4 hg BK395.out : gb395 ≠ gb399); have NB399_395 := zA (zB5 hg BK395.out : gb399 ≠ gb395); replace BK395 := zA (zB1 BK395.out hb); clear hb hbox hg; have hnb7 := NB399_395.out; have hnc7 := NB395_399.out; obtain ⟨hcz8_0, hcz8_1, hfz8_0, hfz8_1⟩ := zB3 BK399.out))
 go_loopg [4] k (fun kq v4 w' => ∃ (x4_1 : Int) (x400001_1 : List Int) (u400001 : Value), v4 = .int .i64 x4_1 ∧ Aside0 (spec_l02Free.l0 kq a0 x4_1 a0 x400001_1 = some (r1, r2)) ∧ Aside0 (kq ≤ k) ∧ Aside0 (Kd.R (Kd.int .i64) 2 w' w.heap.size (fun _ => True) u400001 x400001_1) ∧ Aside0 (w'.heap[gb395]? = some (.cells #[.int .i64 0, (.slice none 0 0)] 29 (0, 0))) ∧ Aside0 (w'.heap[gb399]? = some (.cells #[.int .i64 a0, u400001] 29 (0, 0))) ∧ Aside0 (Below w.heap.size w w'))
 case atStart => exact ⟨(0), (y396), (.slice Ao5 y396.length co5), zs, H', ⟨Nat.le_refl _⟩, ⟨by (with_reducible repeat (first | apply zF | apply zG | apply zH)); exact kA (kY (p := ⟨gb399, 1, none⟩) (kY (p := ⟨gb399, 0, none⟩) (kD HO398.out BK399.out (by decide)) (fun _ hk => hk.2) (.int .i64 a0)) (fun _ hk => hk.2) (.slice Ao5 y396.length co5)) (fun _ hk => trivial)⟩, ⟨by (with_reducible repeat (first | refine zJ ?_ _ | refine zK ?_ | refine zI ?_ _)); refine blk_far ?_ NB395_399.out _; (with_reducible repeat (first | refine zJ ?_ _ | refine zK ?_ | refine zI ?_ _)); refine blk_far ?_ NB395_399.out _; (with_reducible repeat (first | refine zJ ?_ _ | refine zK ?_ | refine zI ?_ _)); exact BK395.out⟩, ⟨by (with_reducible repeat (first | refine zJ ?_ _ | refine zK ?_ | refine zI ?_ _)); refine blk_put (cs := #[.int .i64 a0, .slice none 0 0]) ?_ 1 _ rfl; (with_reducible repeat (first | refine zJ ?_ _ | refine zK ?_ | refine zI ?_ _)); refine blk_put (cs := #[.int .i64 0, .slice none 0 0]) ?_ 0 _ rfl; (with_reducible repeat (first | refine zJ ?_ _ | refine zK ?_ | refine zI ?_ _)); exact BK399.out⟩, ⟨zV HB.out GE395.out GE399.out⟩⟩
 case round =>
  clear H'
  try clear c1
  try clear c7
  try clear hcz8_0
  try clear hcz8_1
  try clear hfz8_0
  try clear hfz8_1
  obtain ⟨x4_1, x400001_1, u400001, rfl, HA, HK1, HO_400001, BK395, BK399, HB⟩ := hrel
  cases gk with
  | zero => exact absurd HA.out (by simp [spec_l02Free.l0])
  | succ k1 =>
   have H := HA.out
   clear HA
   simp only [spec_l02Free.l0] at H
   by_cases c9 : x4_1 < a0
   ·rw [if_pos c9] at H
    have c9b0 : decide (x4_1 < a0) = true := decide_eq_true c9
    clear c9
    obtain ⟨t400, A10, H⟩ := zb H
    try dsimp only at H
    by_cases c11 : x400001_1.length < 17592186044416
    ·rw [if_pos c11] at H
     have LMc11 := zA c11
     clear c11
     obtain ⟨y401, hy401⟩ : ∃ y_ : List Int, y_ = (x400001_1 ++ [t400]) := ⟨_, rfl⟩
     replace H : (spec_l02Free.l0 k1 a0 (wrap64 (x4_1 + 1)) a0 y401) = some (r1, r2) := zy hy401 H
     have Ny401 := zA hy401
     clear hy401
     have H' := zA H
     clear H
     try go_wp2
     replace HO_400001 := zA (zH HO_400001.out)
     replace BK395 := zA (zK BK395.out)
     replace BK399 := zA (zK BK399.out)
     replace HB := zA (zD HB.out)
     refine start_ (n := 8) (S := fun w' => w'.cell? ⟨gb399, 0, none⟩ = some (.int .i64 a0) ∧ w'.cell? ⟨gb399, 1, none⟩ = some (u400001)) (ds := [7]) #[false, false, false, false, false, false, false, false] (by kernel_rfl) rfl rfl ⟨(kV BK399.out 0).trans rfl, (kV BK399.out 1).trans rfl⟩ (fun hHeld => ?_); refine with_tabW spec_l02Free.tab5 spec_l02Free.bits5 (fun HT_ HW_ => ?_)
     generalize wr.drew = w12 at HO_400001 BK395 BK399 HB hHeld ⊢
     refine zp 0 (some 13) #[true, false, false, false, false, false, false, false] HT_.out ?_
     refine zp 2 (some 15) #[true, false, true, false, false, false, false, false] HT_.out ?_
     refine zc 1 (some 14) #[true, true, true, false, false, false, false, false] HT_.out HW_.out hHeld ?_
     refine one_ (i := 3) (N := some 16) #[true, true, true, true, false, false, false, false] rfl rfl (one_of HT_.out (by kernel_rfl)) (by decide) (fun K hK => ?_)
     refine goes_ Tryd.func144 (by kernel_rfl) rfl #[.int .i64 x4_1] (by rfl) rfl rfl zg ?_
     with_reducible refine (spec_l01One.calls x4_1 t400 _ A10.out).mono ?_
     rintro e w' ⟨rfl, ⟨nd, rfl⟩⟩
     refine ⟨_, rfl, ?_⟩
     refine hK.out _ _ ⟨(kV BK399.out 0).trans rfl, (kV BK399.out 1).trans rfl⟩ (fun hHeld => ?_)
     clear hK K
     refine norm_ (a' := ?_) ?_ ?_
     rotate_left
     ·show Act.put _ (some 16) _ = _
      simp only [Act.put, zL, zM, zN, i64_w, i32_w]
      rfl
     refine one_ (i := 4) (N := some 17) #[true, true, true, true, true, false, false, false] rfl rfl (one_of HT_.out (by kernel_rfl)) (by decide) (fun K hK => ?_)
     refine value_ (w1 := ?_) (v := ?_) (by rfl) rfl ?_ ?_
     rotate_left 2
     ·go_simp
      constructor
      ·rfl
      rfl
     refine hK.out _ _ ⟨(kV (zI BK399.out _) 0).trans rfl, (kV (zI BK399.out _) 1).trans rfl⟩ (fun hHeld => ?_)
     clear hK K
     refine norm_ (a' := ?_) ?_ ?_
     rotate_left
     ·show Act.put _ (some 17) _ = _
      simp only [Act.put, zL, zM, zN, i64_w, i32_w]
      rfl
     refine one_ (i := 5) (N := some 18) #[true, true, true, true, true, true, false, false] rfl rfl (one_of HT_.out (by kernel_rfl)) (by decide) (fun K hK => ?_)
     refine Kd.R_append_step (Kd.int .i64) (w0 := w) w.heap.size (by rfl) (.tmp 14) (.tmp 17) 22 2 (.int .i64 0) 8 rfl Tryd.underlying22 info2 rfl (by decide) (by omega) u400001 x400001_1 t400 [.int .i64 t400] (fun _ => True) (fun _ => False) rfl rfl ?aP (fun _ hk => hk.elim) ?aF ?aO ?aB ?aS ?aL ?_
     (case aP => exact rfl)
     (case aB => exact (zV HB.out GE395.out GE399.out))
     (case aF => exact (fun _ _ => trivial))
     (case aO => exact (zP HO_400001.out))
     (case aS => exact (kP (zV HB.out GE395.out GE399.out)))
     (case aL => have := LMc11.out; omega)
     intro v402 w13 ho hb hg hat
     rw [← Ny401.out] at ho
     replace BK395 := zA (blk_grown (g := gb395) (o := .cells #[.int .i64 0, .slice none 0 0] 29 (0, 0)) (zR BK395.out) hg (Kd.R_ne HO_400001.out BK395.out (by decide)))
     replace BK399 := zA (blk_grown (g := gb399) (o := .cells #[.int .i64 a0, u400001] 29 (0, 0)) (zR BK399.out) hg (Kd.R_ne HO_400001.out BK399.out (by decide)))
     replace HB := zA (hb)
     have HO403 := zA (ho)
     clear HO_400001 ho hb hg hat
     obtain ⟨Ao14, co14, eo14⟩ := kM HO403.out
     (first | subst eo14 | (injection eo14 with f1_ f2_ f3_; have f4_ := f1_.symm; have f5_ := f3_.symm; clear f1_ f2_ f3_; subst f4_; subst f5_))
     refine hK.out _ _ ⟨(kV BK399.out 0).trans rfl, (kV BK399.out 1).trans rfl⟩ (fun hHeld => ?_)
     clear hK K
     refine norm_ (a' := ?_) ?_ ?_
     rotate_left
     ·show Act.put _ (some 18) _ = _
      simp only [Act.put, zL, zM, zN, i64_w, i32_w]
      rfl
     refine zp 6 (some 19) #[true, true, true, true, true, true, true, false] HT_.out ?_
     refine last_ (i := 7) (N := none) #[true, true, true, true, true, true, true, true] rfl rfl (one_of HT_.out (by kernel_rfl)) (by decide) (fun K hK => ?_)
     have hs15 : w13.cell? ⟨gb399, 1, none⟩ = some (u400001) := (kV BK399.out 1).trans rfl
     have hfs15 := jH BK399.out 1
     have hns15_0 := NB395_399.out
     have hms15_0 := NB399_395.out
     refine skip_ (w1 := ?_) (by rfl) rfl ?_ ?_
     rotate_left
     ·go_simp
      rfl
     refine hK.out _ _ ?_
     clear hK K
     refine done_ (done_of HT_.out (by kernel_rfl)) ?_
     try go_wp2
     go_roundg k1
     case measure => have := HK1.out; omega
     case rel => exact ⟨(wrap64 (x4_1 + 1)), (y401), (.slice Ao14 y401.length co14), zs, H', ⟨by have := HK1.out; omega⟩, ⟨by (with_reducible repeat (first | apply zF | apply zG | apply zH)); exact kA (kY (p := ⟨gb399, 1, none⟩) (kD HO403.out BK399.out (by decide)) (fun _ hk => hk.2) (.slice Ao14 y401.length co14)) (fun _ hk => trivial)⟩, ⟨by (with_reducible repeat (first | refine zJ ?_ _ | refine zK ?_ | refine zI ?_ _)); refine blk_far ?_ NB395_399.out _; (with_reducible repeat (first | refine zJ ?_ _ | refine zK ?_ | refine zI ?_ _)); exact BK395.out⟩, ⟨by (with_reducible repeat (first | refine zJ ?_ _ | refine zK ?_ | refine zI ?_ _)); refine blk_put (cs := #[.int .i64 a0, u400001]) ?_ 1 _ rfl; (with_reducible repeat (first | refine zJ ?_ _ | refine zK ?_ | refine zI ?_ _)); exact BK399.out⟩, ⟨zV HB.out GE395.out GE399.out⟩⟩
    rw [if_neg c11] at H
    exact absurd H (by simp)
   rw [if_neg c9] at H
   have c9b0 : decide (x4_1 < a0) = false := decide_eq_false c9
   clear c9
   simp only [Option.some.injEq, Prod.mk.injEq] at H
   obtain ⟨rfl, rfl⟩ := H
   have hnb16 := NB399_395.out
   have hnc16 := NB395_399.out
   obtain ⟨hcz17_0, hcz17_1, hfz17_0, hfz17_1⟩ := zB3 BK399.out
   obtain ⟨hcz18_0, hcz18_1, hfz18_0, hfz18_1⟩ := zB3 BK395.out
   obtain ⟨Ao19, co19, eo19⟩ := kM HO_400001.out
   subst eo19
   go_wp2
   refine bodyPost_ret (results_cell_row rfl _ _ gb395 29 #[.int .i64 a0, .slice Ao19 x400001_1.length co19] (0, 0) _ rfl (zRP BK395.out) Tryd.underlying29 rfl (by kernel_rfl)) rfl ?_
   exact ⟨_, zr, by (with_reducible repeat (first | apply zF | apply zG | apply zH)); exact kA (kY (p := ⟨gb395, 1, none⟩) (kY (p := ⟨gb395, 0, none⟩) (kD HO_400001.out BK395.out (by decide)) (fun _ hk => hk.2) (.int .i64 a0)) (fun _ hk => hk.2) (.slice Ao19 x400001_1.length co19)) (fun _ hk => trivial), zV HB.out GE395.out GE399.out⟩

/-! ### spec_l02Join: function 185 -/
def spec_l01One_Bl02Join.f (a0 : Int) : Option (Int) := spec_l01One.f a0
theorem spec_l01One_Bl02Join.calls (a0 : Int) (r : Int) (w : World) (h : spec_l01One_Bl02Join.f a0 = some r) :
 Calls Tryd.prog 144 #[.int .i64 a0] w fun e w' => e = .returned (.int .i64 r) ∧ Below w.heap.size w w' := by
 refine (spec_l01One.calls a0 r w h).mono ?_
 rintro e w' ⟨h1, h2⟩
 exact ⟨h1, Drawn0.below h2⟩
def spec_l02Join.f (a0_0 : Int) (l0_1 : List Int) (a1 : Int) (a2 : Int) : Option (List Int) := if 0 ≤ a1 then (if a1 < (l0_1.length : Int) then ((spec_l01One_Bl02Join.f a2).bind fun t406 => ((some (l0_1.set (a1 : Int).toNat (Go.bits .or .i64 (rd l0_1 a1) t406) : List Int)).bind fun y407 => (if 0 ≤ a2 then (if a2 < (l0_1.length : Int) then ((spec_l01One_Bl02Join.f a1).bind fun t409 => (some (y407.set (a2 : Int).toNat (Go.bits .or .i64 (rd y407 a2) t409)))) else (none)) else (none)))) else (none)) else (none)
def spec_l02Join.T1 : Bool × List (List Nat × List Nat) := (true, [([], []), ([0], [0]), ([], []), ([], []), ([3], [3]), ([], []), ([4, 5], [4, 5]), ([6], [6]), ([], []), ([8], [8]), ([7, 9], [7, 9]), ([1, 2, 0, 1, 2, 3, 4, 5, 6, 7, 8, 9, 10], [1, 2]), ([11, 10, 9, 0, 1, 2, 3, 4, 5, 6, 7, 8, 9, 10], [10, 11])])
def spec_l02Join.B1 : List Nat := [0, 1, 0, 0, 8, 0, 56, 120, 0, 256, 1016, 2047, 4095]
theorem spec_l02Join.tab1 : rtab .any (opsOf Tryd.f185 1) = spec_l02Join.T1 := by kernel_rfl
theorem spec_l02Join.bits1 : waitsOk spec_l02Join.T1.2 spec_l02Join.B1 = true := by kernel_rfl
def spec_l02Join.T2 : Bool × List (List Nat × List Nat) := (true, [([], []), ([0], [0]), ([], []), ([], []), ([3], [3]), ([], []), ([4, 5], [4, 5]), ([6], [6]), ([], []), ([8], [8]), ([7, 9], [7, 9]), ([1, 2, 0, 1, 2, 3, 4, 5, 6, 7, 8, 9, 10], [1, 2]), ([11, 10, 9, 0, 1, 2, 3, 4, 5, 6, 7, 8, 9, 10], [10, 11])])
def spec_l02Join.B2 : List Nat := [0, 1, 0, 0, 8, 0, 56, 120, 0, 256, 1016, 2047, 4095]
theorem spec_l02Join.tab2 : rtab .any (opsOf Tryd.f185 2) = spec_l02Join.T2 := by kernel_rfl
theorem spec_l02Join.bits2 : waitsOk spec_l02Join.T2.2 spec_l02Join.B2 = true := by kernel_rfl
set_option maxHeartbeats 8000000 in
set_option maxRecDepth 100000 in
theorem spec_l02Join.calls (a0_0 : Int) (P0_1_ : Nat → Prop) (u9000_ : Value) (l0_1 : List Int) (a1 : Int) (a2 : Int) (r : List Int) (w0 w : World) (hB : Below w0.heap.size w0 w) (ho0_1 : Kd.R (Kd.int .i64) 2 w w0.heap.size P0_1_ u9000_ l0_1) (h : spec_l02Join.f a0_0 l0_1 a1 a2 = some r) :
  Calls Tryd.prog 185 #[.agg #[.int .i64 a0_0, u9000_], .int .i64 a1, .int .i64 a2] w fun e w' => e = .returned (.tuple #[]) ∧ Kd.R (Kd.int .i64) 2 w' w0.heap.size (fun k_ => (P0_1_ k_ ∨ w.heap.size ≤ k_)) u9000_ r ∧ Below w0.heap.size w0 w' ∧ Kept w w' (fun k_ => P0_1_ k_) := by
 have hu29 := Tryd.underlying29
 have HO0_1 := zA (show Kd.R (Kd.int .i64) 2 w w0.heap.size (fun k_ => (P0_1_ k_ ∨ w.heap.size ≤ k_)) u9000_ l0_1 from kA ho0_1 (fun k_ hk => (.inl hk)))
 have HK := zA (Kept.refl w (fun k_ => P0_1_ k_))
 have HW0 := zA hB.size
 have HB := zA hB
 clear hB
 have H := h
 unfold spec_l02Join.f at H
 clear h
 by_cases c4 : 0 ≤ a1
 ·rw [if_pos c4] at H
  have c4b0 : decide (0 ≤ a1) = true := decide_eq_true c4
  clear c4
  by_cases c5 : a1 < (l0_1.length : Int)
  ·rw [if_pos c5] at H
   have c5b0 : decide (a1 < (l0_1.length : Int)) = true := decide_eq_true c5
   clear c5
   obtain ⟨t406, A6, H⟩ := zb H
   try dsimp only at H
   obtain ⟨y407, hy407⟩ : ∃ y_ : List Int, y_ = (l0_1.set (a1 : Int).toNat (Go.bits .or .i64 (rd l0_1 a1) t406)) := ⟨_, rfl⟩
   replace H : (if 0 ≤ a2 then (if a2 < (l0_1.length : Int) then ((spec_l01One_Bl02Join.f a1).bind fun t409 => (some (y407.set (a2 : Int).toNat (Go.bits .or .i64 (rd y407 a2) t409)))) else (none)) else (none)) = some r := zy hy407 H
   have Ny407 := zA hy407
   clear hy407
   by_cases c8 : 0 ≤ a2
   ·rw [if_pos c8] at H
    have c8b0 : decide (0 ≤ a2) = true := decide_eq_true c8
    clear c8
    by_cases c9 : a2 < (l0_1.length : Int)
    ·rw [if_pos c9] at H
     have c9b0 : decide (a2 < (l0_1.length : Int)) = true := decide_eq_true c9
     clear c9
     obtain ⟨t409, A10, H⟩ := zb H
     try dsimp only at H
     obtain ⟨y410, hy410⟩ : ∃ y_ : List Int, y_ = (y407.set (a2 : Int).toNat (Go.bits .or .i64 (rd y407 a2) t409)) := ⟨_, rfl⟩
     replace H : (some y410) = some r := zy hy410 H
     have Ny410 := zA hy410
     clear hy410
     obtain rfl := Option.some.inj H
     obtain ⟨Ao12, co12, eo12⟩ := kM HO0_1.out
     subst eo12
     go_enter Tryd.func185, Tryd.ntmps185
     try go_wp2_with (first | (refine zBE 3 #[.int .i64 a0_0, .slice Ao12 l0_1.length co12] 29 ?_; intro gb404 hg w13 hbox hb; replace HO0_1 := zA (kL (zP HO0_1.out) hb); have BK404 := zA (hbox); have GW404 := zA (zB6 hg (by first | exact HK.out.1 | exact (show Kept w _ (fun k_ => P0_1_ k_) from by repeat (first | (with_reducible first | exact HK.out | apply Kept.alloc | apply Kept.drewN | apply Kept.drew) | exact HK.out)).1) : w.heap.size ≤ gb404); replace HK := zA (Kept.below (S := (fun k_ => P0_1_ k_)) (by repeat (first | (with_reducible first | exact HK.out | apply Kept.alloc | apply Kept.drewN | apply Kept.drew) | exact HK.out)) hb); have GE404 := zA (zBH hg HB.out); replace HB := zA (kQ (zQ HB.out) hb); clear hb hbox hg))
     replace HO0_1 := zA (zH HO0_1.out)
     replace BK404 := zA (zK BK404.out)
     replace HK := zA (Kept.drew HK.out)
     replace HB := zA (zD HB.out)
     have p405 : 0 ≤ (a1 : Int) := zd
     have q405 : a1 < (l0_1.length : Int) := zd
     obtain ⟨ad405, e405, hx405_0⟩ := Kd.at_int (kB HO0_1.out).2.2 a1 p405 q405
     cases e405
     replace p405 := eq_true p405
     replace q405 := eq_true q405
     refine start_ (n := 13) (S := fun w' => w'.cell? ⟨gb404, 0, none⟩ = some (.int .i64 a0_0) ∧ w'.cell? ⟨gb404, 1, none⟩ = some (.slice (some ad405) l0_1.length co12) ∧ w'.cell? (ad405.add (a1).toNat) = some (.int .i64 (rd l0_1 a1))) (ds := [12]) #[false, false, false, false, false, false, false, false, false, false, false, false, false] (by kernel_rfl) rfl rfl ⟨(kV BK404.out 0).trans rfl, (kV BK404.out 1).trans rfl, hx405_0⟩ (fun hHeld => ?_); refine with_tabW spec_l02Join.tab1 spec_l02Join.bits1 (fun HT_ HW_ => ?_)
     generalize w13.drew = w14 at HO0_1 BK404 HK HB hx405_0 hHeld ⊢
     refine zp 0 (some 6) #[true, false, false, false, false, false, false, false, false, false, false, false, false] HT_.out ?_
     refine zp 2 (some 8) #[true, false, true, false, false, false, false, false, false, false, false, false, false] HT_.out ?_
     refine zp 3 (some 9) #[true, false, true, true, false, false, false, false, false, false, false, false, false] HT_.out ?_
     refine zp 5 (some 11) #[true, false, true, true, false, true, false, false, false, false, false, false, false] HT_.out ?_
     refine zp 8 (some 14) #[true, false, true, true, false, true, false, false, true, false, false, false, false] HT_.out ?_
     refine ze 1 (some 7) #[true, true, true, true, false, true, false, false, true, false, false, false, false] HT_.out HW_.out hHeld ?_
     refine ze 4 (some 10) #[true, true, true, true, true, true, false, false, true, false, false, false, false] HT_.out HW_.out hHeld ?_
     refine zp 6 (some 12) #[true, true, true, true, true, true, true, false, true, false, false, false, false] HT_.out ?_
     refine ze 7 (some 13) #[true, true, true, true, true, true, true, true, true, false, false, false, false] HT_.out HW_.out hHeld ?_
     refine one_ (i := 9) (N := some 15) #[true, true, true, true, true, true, true, true, true, true, false, false, false] rfl rfl (one_of HT_.out (by kernel_rfl)) (by decide) (fun K hK => ?_)
     refine goes_ Tryd.func144 (by kernel_rfl) rfl #[.int .i64 a2] (by rfl) rfl rfl zg ?_
     with_reducible refine (spec_l01One_Bl02Join.calls a2 t406 _ A6.out).mono ?_
     rintro e w15 ⟨rfl, hb⟩
     have HS2_ := (hb.cell (jG _ _ (hHeld.2.2))).trans (hHeld.2.2)
     refine ⟨_, rfl, ?_⟩
     replace HO0_1 := zA (kL (zP HO0_1.out) hb)
     replace BK404 := zA (zB1 BK404.out hb)
     replace HK := zA (Kept.below (S := (fun k_ => P0_1_ k_)) (by repeat (first | (with_reducible first | exact HK.out | apply Kept.alloc | apply Kept.drewN | apply Kept.drew | refine Kept.setCell ?_ (.inr GW404.out) _) | exact HK.out)) hb)
     replace HB := zA (kQ (zT HB.out GE404.out) hb)
     (try clear hb)
     (try clear hb2)
     (try clear hk)
     (try clear hi)
     (try clear hgw)
     have p7 : 0 ≤ (a1 : Int) := zd
     have q7 : (a1 : Int) < ((l0_1.length : Int) : Int) := zd
     obtain ⟨go7, co7, eo7, gb7, gl7, cl7, HG7⟩ := Kd.R_form HO0_1.out (by omega)
     (first | cases eo7 | (injection eo7 with ea_ en_ ec_; (first | subst ea_ | (injection ea_ with ea_; subst ea_)); subst ec_; clear en_))
     have GB7 := zA gb7
     have GG7 := zA HG7
     clear gb7 gl7 HG7
     have HMgo7 := zA (show (P0_1_ go7 ∨ w.heap.size ≤ go7) from (HO0_1.out.1 _ rfl))
     (first | simp only [add_plain] at hx405_0 | skip)
     obtain ⟨hx7_0, hf7_0⟩ := Kd.R_celln 0 HO0_1.out (a1 : Int) p7 q7
     replace p7 := eq_true p7
     replace q7 := eq_true q7
     have HP16 := Kd.R_putn HO0_1.out (a1 : Int) (Go.bits .or .i64 (rd l0_1 a1) t406)
     rw [← Ny407.out] at HP16
     have HQ16 := zA HP16
     clear HP16
     refine hK.out _ _ ⟨(kV BK404.out 0).trans rfl, (kV BK404.out 1).trans rfl, HS2_⟩ (fun hHeld => ?_)
     clear hK K
     refine norm_ (a' := ?_) ?_ ?_
     rotate_left
     ·show Act.put _ (some 15) _ = _
      simp only [Act.put, zL, zM, zN, i64_w, i32_w]
      rfl
     refine zp 10 (some 16) #[true, true, true, true, true, true, true, true, true, true, true, false, false] HT_.out ?_
     refine zp 11 (some 17) #[true, true, true, true, true, true, true, true, true, true, true, true, false] HT_.out ?_
     refine last_ (i := 12) (N := none) #[true, true, true, true, true, true, true, true, true, true, true, true, true] rfl rfl (one_of HT_.out (by kernel_rfl)) (by decide) (fun K hK => ?_)
     refine skip_ (w1 := ?_) (by rfl) rfl ?_ ?_
     rotate_left
     ·go_simp
      rfl
     refine hK.out _ _ ?_
     clear hK K
     refine done_ (done_of HT_.out (by kernel_rfl)) ?_
     try go_wp2
     have n0_ : Aside0 (Kd.R (Kd.int .i64) 2 (w15.setCell ⟨go7, (a1 : Int).toNat, none⟩ (.int .i64 (Go.bits .or .i64 (rd l0_1 a1) t406))) w0.heap.size (fun k_ => (P0_1_ k_ ∨ w.heap.size ≤ k_)) (.slice (some ⟨go7, 0, none⟩) l0_1.length co12) y407) := ⟨zP HQ16.out⟩
     have n1_ : Aside0 ((w15.setCell ⟨go7, (a1 : Int).toNat, none⟩ (.int .i64 (Go.bits .or .i64 (rd l0_1 a1) t406))).heap[gb404]? = some (.cells #[.int .i64 a0_0, .slice (some ⟨go7, 0, none⟩) l0_1.length co12] 29 (0, 0))) := ⟨by (with_reducible repeat (first | refine zJ ?_ _ | refine zK ?_ | refine zI ?_ _)); refine blk_far ?_ (by have h_ := Kd.R_ne HO0_1.out BK404.out (by decide); intro e_; exact h_ (by rw [e_]; rfl)) _; (with_reducible repeat (first | refine zJ ?_ _ | refine zK ?_ | refine zI ?_ _)); exact BK404.out⟩
     have n2_ : Aside0 (Kept w (w15.setCell ⟨go7, (a1 : Int).toNat, none⟩ (.int .i64 (Go.bits .or .i64 (rd l0_1 a1) t406))) (fun k_ => P0_1_ k_)) := ⟨by repeat (first | (with_reducible first | exact HK.out | apply Kept.alloc | apply Kept.drewN | apply Kept.drew | refine Kept.setCell ?_ HMgo7.out _ | refine Kept.setCell ?_ (.inr GW404.out) _) | exact HK.out)⟩
     have n3_ : Aside0 (Below w0.heap.size w0 (w15.setCell ⟨go7, (a1 : Int).toNat, none⟩ (.int .i64 (Go.bits .or .i64 (rd l0_1 a1) t406)))) := ⟨zV HB.out GB7.out GE404.out⟩
     (try clear HO0_1)
     (try clear BK404)
     (try clear HK)
     (try clear HB)
     generalize (w15.setCell ⟨go7, (a1 : Int).toNat, none⟩ (.int .i64 (Go.bits .or .i64 (rd l0_1 a1) t406))) = w17 at n0_ n1_ n2_ n3_ ⊢
     have HO0_1 := n0_
     have BK404 := n1_
     have HK := n2_
     have HB := n3_
     clear n0_ n1_ n2_ n3_
     replace HO0_1 := zA (zH HO0_1.out)
     replace BK404 := zA (zK BK404.out)
     replace HK := zA (Kept.drew HK.out)
     replace HB := zA (zD HB.out)
     have p408 : 0 ≤ (a2 : Int) := zd
     have q408 : a2 < (y407.length : Int) := (by have h_ : (a2 : Int) < ((l0_1.length : Int) : Int) := zd; first | (have e_ := (kB HO0_1.out).1; omega) | simpa only [Ny407.out, List.length_set] using h_)
     have ql408 : ((a2 : Int) < ((l0_1.length : Int) : Int)) = True := eq_true (zd)
     obtain ⟨ad408, e408, hx408_0⟩ := Kd.at_int (kB HO0_1.out).2.2 a2 p408 q408
     obtain rfl : (⟨go7, 0, none⟩ : Addr) = ad408 := (by injection e408)
     (first | simp only [add_plain] at hx408_0 | simp only [add_at] at hx408_0 | simp only [Addr.add, Nat.zero_add] at hx408_0 | skip)
     replace p408 := eq_true p408
     replace q408 := eq_true q408
     refine start_ (n := 13) (S := fun w' => w'.cell? ⟨gb404, 0, none⟩ = some (.int .i64 a0_0) ∧ w'.cell? ⟨gb404, 1, none⟩ = some (.slice (some ⟨go7, 0, none⟩) l0_1.length co12) ∧ w'.cell? ⟨go7, (a2).toNat, none⟩ = some (.int .i64 (rd y407 a2))) (ds := [12]) #[false, false, false, false, false, false, false, false, false, false, false, false, false] (by kernel_rfl) rfl rfl ⟨(kV BK404.out 0).trans rfl, (kV BK404.out 1).trans rfl, hx408_0⟩ (fun hHeld => ?_); refine with_tabW spec_l02Join.tab2 spec_l02Join.bits2 (fun HT_ HW_ => ?_)
     generalize w17.drew = w18 at HO0_1 BK404 HK HB HQ16 hx408_0 hHeld ⊢
     refine zp 0 (some 18) #[true, false, false, false, false, false, false, false, false, false, false, false, false] HT_.out ?_
     refine zp 2 (some 20) #[true, false, true, false, false, false, false, false, false, false, false, false, false] HT_.out ?_
     refine zp 3 (some 21) #[true, false, true, true, false, false, false, false, false, false, false, false, false] HT_.out ?_
     refine zp 5 (some 23) #[true, false, true, true, false, true, false, false, false, false, false, false, false] HT_.out ?_
     refine zp 8 (some 26) #[true, false, true, true, false, true, false, false, true, false, false, false, false] HT_.out ?_
     refine ze 1 (some 19) #[true, true, true, true, false, true, false, false, true, false, false, false, false] HT_.out HW_.out hHeld ?_
     refine ze 4 (some 22) #[true, true, true, true, true, true, false, false, true, false, false, false, false] HT_.out HW_.out hHeld ?_
     refine zp 6 (some 24) #[true, true, true, true, true, true, true, false, true, false, false, false, false] HT_.out ?_
     refine ze 7 (some 25) #[true, true, true, true, true, true, true, true, true, false, false, false, false] HT_.out HW_.out hHeld ?_
     refine one_ (i := 9) (N := some 27) #[true, true, true, true, true, true, true, true, true, true, false, false, false] rfl rfl (one_of HT_.out (by kernel_rfl)) (by decide) (fun K hK => ?_)
     refine goes_ Tryd.func144 (by kernel_rfl) rfl #[.int .i64 a1] (by rfl) rfl rfl zg ?_
     with_reducible refine (spec_l01One_Bl02Join.calls a1 t409 _ A10.out).mono ?_
     rintro e w19 ⟨rfl, hb⟩
     have HS2_ := (hb.cell (jG _ _ (hHeld.2.2))).trans (hHeld.2.2)
     refine ⟨_, rfl, ?_⟩
     replace HO0_1 := zA (kL (zP HO0_1.out) hb)
     replace BK404 := zA (zB1 BK404.out hb)
     replace HK := zA (Kept.below (S := (fun k_ => P0_1_ k_)) (by repeat (first | (with_reducible first | exact HK.out | apply Kept.alloc | apply Kept.drewN | apply Kept.drew | refine Kept.setCell ?_ (.inr GW404.out) _) | exact HK.out)) hb)
     replace HB := zA (kQ (zT HB.out GE404.out) hb)
     (try clear hb)
     (try clear hb2)
     (try clear hk)
     (try clear hi)
     (try clear hgw)
     have p11 : 0 ≤ (a2 : Int) := zd
     have q11 : (a2 : Int) < ((l0_1.length : Int) : Int) := zd
     obtain ⟨hx11_0, hf11_0⟩ := Kd.R_celln 0 HO0_1.out (a2 : Int) p11 q11
     replace p11 := eq_true p11
     replace q11 := eq_true q11
     have HP20 := Kd.R_putn HO0_1.out (a2 : Int) (Go.bits .or .i64 (rd y407 a2) t409)
     rw [← Ny410.out] at HP20
     have HQ20 := zA HP20
     clear HP20
     refine hK.out _ _ ⟨(kV BK404.out 0).trans rfl, (kV BK404.out 1).trans rfl, HS2_⟩ (fun hHeld => ?_)
     clear hK K
     refine norm_ (a' := ?_) ?_ ?_
     rotate_left
     ·show Act.put _ (some 27) _ = _
      simp only [Act.put, zL, zM, zN, i64_w, i32_w]
      rfl
     refine zp 10 (some 28) #[true, true, true, true, true, true, true, true, true, true, true, false, false] HT_.out ?_
     refine zp 11 (some 29) #[true, true, true, true, true, true, true, true, true, true, true, true, false] HT_.out ?_
     refine last_ (i := 12) (N := none) #[true, true, true, true, true, true, true, true, true, true, true, true, true] rfl rfl (one_of HT_.out (by kernel_rfl)) (by decide) (fun K hK => ?_)
     refine skip_ (w1 := ?_) (by rfl) rfl ?_ ?_
     rotate_left
     ·go_simp
      rfl
     refine hK.out _ _ ?_
     clear hK K
     refine done_ (done_of HT_.out (by kernel_rfl)) ?_
     try go_wp2
     first | go_end0 | ((try simp only [Exit.inBlock, Exit.then]); refine bodyPost_ret (results_none rfl _ _ _) rfl ?_)
     exact ⟨zr, zP HQ20.out, zV HB.out GB7.out GE404.out, by repeat (first | (with_reducible first | exact HK.out | apply Kept.alloc | apply Kept.drewN | apply Kept.drew | refine Kept.setCell ?_ HMgo7.out _ | refine Kept.setCell ?_ (.inr GW404.out) _) | exact HK.out)⟩
    rw [if_neg c9] at H
    exact absurd H (by simp)
   rw [if_neg c8] at H
   exact absurd H (by simp)
  rw [if_neg c5] at H
  exact absurd H (by simp)
 rw [if_neg c4] at H
 exact absurd H (by simp)

/-! ### spec_l02Draw: function 172 -/
mutual
def spec_l02Draw.j0 : Nat → Int → Bool → List Int → Int → Int → Option (Int × List Int × Int × Int)
 | 0, _, _, _, _, _ => none
 | k + 1, x1, x16, x1000, x1001, x1002 => if x16 = true then (some (4, (([11, 7, 14, 13] : List Int)), x1001, x1002)) else ((spec_l01Next.f x1000 x1001 x1002 (wrap64 (x1 + 1))).bind fun bt418 => (if bt418.1 < 2 then ((spec_l01Next.f x1000 bt418.2.1 bt418.2.2 (wrap64 (x1 + 1))).bind fun bt421 => (spec_l02Draw.j1 k bt421.1 x1000 bt421.2.1 bt421.2.2)) else (spec_l02Draw.j1 k bt418.1 x1000 bt418.2.1 bt418.2.2)))
def spec_l02Draw.j1 : Nat → Int → List Int → Int → Int → Option (Int × List Int × Int × Int)
 | 0, _, _, _, _ => none
 | k + 1, x5, x1000, x1001, x1002 => (spec_l02Free.f k x5).bind fun bt424 => ((spec_l01Pick.f x1000 x1001 x1002 (([2, 2, 3, 4] : List Int))).bind fun bt431 => (spec_l02Draw.l0 k x5 bt431.1 0 x1000 bt431.2.1 bt431.2.2 bt424.1 bt424.2))
def spec_l02Draw.l0 : Nat → Int → Int → Int → List Int → Int → Int → Int → List Int → Option (Int × List Int × Int × Int)
 | 0, _, _, _, _, _, _, _, _ => none
 | k + 1, x5, x7, x8, x1000, x1001, x1002, x435000, x435001 => if x8 < x5 then (spec_l02Draw.l1 k x5 x7 x8 0 x1000 x1001 x1002 x435000 x435001) else (some (x435000, x435001, x1001, x1002))
def spec_l02Draw.l1 : Nat → Int → Int → Int → Int → List Int → Int → Int → Int → List Int → Option (Int × List Int × Int × Int)
 | 0, _, _, _, _, _, _, _, _, _ => none
 | k + 1, x5, x7, x8, x9, x1000, x1001, x1002, x435000, x435001 => if x9 < x8 then ((spec_l01Next.f x1000 x1001 x1002 x7).bind fun bt435 => (if bt435.1 = 0 then ((spec_l02Join.f x435000 x435001 x8 x9).bind fun t438 => (spec_l02Draw.l1 k x5 x7 x8 (wrap64 (x9 + 1)) x1000 bt435.2.1 bt435.2.2 x435000 t438)) else (spec_l02Draw.l1 k x5 x7 x8 (wrap64 (x9 + 1)) x1000 bt435.2.1 bt435.2.2 x435000 x435001))) else (spec_l02Draw.l0 k x5 x7 (wrap64 (x8 + 1)) x1000 x1001 x1002 x435000 x435001)
end
def spec_l02Draw.f (k : Nat) (s0_0 : List Int) (s0_1 : Int) (s0_2 : Int) (a1 : Int) : Option (Int × List Int × Int × Int) := if a1 ≥ 4 then ((spec_l01Next.f s0_0 s0_1 s0_2 6).bind fun bt412 => (spec_l02Draw.j0 k a1 (bt412.1 == 0) s0_0 bt412.2.1 bt412.2.2)) else (spec_l02Draw.j0 k a1 false s0_0 s0_1 s0_2)

set_option maxHeartbeats 8000000 in
set_option maxRecDepth 100000 in
theorem spec_l02Draw.calls (k : Nat) (g : Nat) (s0_0 : List Int) (s0_1 : Int) (s0_2 : Int) (a1 : Int) (r1 : Int) (r2 : List Int) (r3 : Int) (r4 : Int) (w0 w : World) (hI : Z140 w0 w g s0_0 s0_1 s0_2) (hB : Below w0.heap.size w0 w) (h : spec_l02Draw.f k s0_0 s0_1 s0_2 a1 = some (r1, r2, r3, r4)) :
  Calls Tryd.prog 172 #[.pointer (some ⟨g, 0, none⟩), .int .i64 a1] w fun e w' => ∃ v1_ : Value, e = .returned (.agg #[.int .i64 r1, v1_]) ∧ Kd.R (Kd.int .i64) 2 w' w.heap.size (fun _ => True) v1_ r2 ∧ Z140 w0 w' g s0_0 r3 r4 ∧ Below w0.heap.size w0 w' ∧ KeepBut w w' g none := by
 have hu29 := Tryd.underlying29
 have HI0 := zA hI
 have HK := zA (KeepBut.refl w g none)
 have HL := zA hB.size
 clear hI
 have HW0 := zA hB.size
 have HB := zA hB
 clear hB
 have H := h
 unfold spec_l02Draw.f at H
 clear h
 have HC3 := zA H
 clear H
 go_enter Tryd.func172, Tryd.ntmps172
 go_upto_region 1 with (first | (refine zBE 4 #[.int .i64 0, .slice none 0 0] 29 ?_; intro gb411 hg w4 hbox hb; replace HB := zA (kQ (zT HB.out (Z140.ge HI0.out)) hb); have BK411 := zA (hbox); have GW411 := zA (zB6 hg (kX (w := w) (g := g) (row := none) (yA HK.out)) : w.heap.size ≤ gb411); have GE411 := zA ((Nat.le_trans HW0.out (by rw [hg]; exact (kX (w := w) (g := g) (row := none) (yA HK.out)) : w.heap.size ≤ gb411) : w0.heap.size ≤ gb411)); replace HK := zA (kT (yA HK.out) (kU hb g none) (.inl rfl)); have NB0_411 := zA (zB7 hg (Z140.lt (show Z140 w0 _ g s0_0 s0_1 s0_2 from Z140.uA HI0.out)) : g ≠ gb411); have NB411_0 := zA (zB8 hg (Z140.lt (show Z140 w0 _ g s0_0 s0_1 s0_2 from Z140.uA HI0.out)) : gb411 ≠ g); replace HI0 := zA (Z140.below (Z140.uA HI0.out) hb); clear hb hbox hg))
 (try simp only [Act.put, zL, zM, zN])
 go_cut [16] (fun v16 wc => ∃ (kq : Nat) (x16_2 : Bool) (x1001_2 : Int) (x1002_2 : Int), v16 = .bool x16_2 ∧ Aside0 (spec_l02Draw.j0 kq a1 x16_2 s0_0 x1001_2 x1002_2 = some (r1, r2, r3, r4)) ∧ Aside0 (kq ≤ k) ∧ Aside0 (wc.heap[gb411]? = some (.cells #[.int .i64 0, (.slice none 0 0)] 29 (0, 0))) ∧ Aside0 (Z140 w0 wc g s0_0 x1001_2 x1002_2) ∧ Aside0 (KeepBut w wc g none) ∧ Aside0 (Below w0.heap.size w0 wc))
 case first =>
  have H := HC3.out
  clear HC3
  by_cases c5 : a1 ≥ 4
  ·rw [if_pos c5] at H
   have c5b0 : decide (4 ≤ a1) = true := decide_eq_true c5
   clear c5
   (first | rw [c5b0] | (simp only [i64_w, i32_w]; rw [c5b0]) | skip)
   obtain ⟨⟨t412, t413, t414⟩, A6, H⟩ := zb H
   try dsimp only at H
   have H' := zA H
   clear H
   go_wp2_with (first | (go_at_call 128; (with_reducible refine (spec_l01Next.calls g s0_0 s0_1 s0_2 6 t412 t413 t414 w0 _ ?side1 ?side2 A6.out).mono ?_); (case side1 => exact Z140.uB HI0.out NB0_411.out); (case side2 => exact zV HB.out (Z140.ge HI0.out) GE411.out); rintro e w7 ⟨rfl, hi, hb, hk⟩; replace BK411 := zA (zB2 hk BK411.out NB411_0.out); replace HK := zA (kT (yB HK.out GW411.out) hk (.inl rfl)); replace HB := zA (hb); replace HI0 := zA (hi); (try clear hb); (try clear hk); (try clear hi)))
   go_meet
   case rel => exact ⟨_, ((t412 == 0)), (t413), (t414), zs, H', ⟨by first | omega | exact Nat.le_refl _⟩, ⟨zR BK411.out⟩, ⟨Z140.uB HI0.out NB0_411.out⟩, ⟨yB HK.out GW411.out⟩, ⟨zV HB.out (Z140.ge HI0.out) GE411.out⟩⟩
  rw [if_neg c5] at H
  have c5b0 : decide (4 ≤ a1) = false := decide_eq_false c5
  clear c5
  (first | rw [c5b0] | (simp only [i64_w, i32_w]; rw [c5b0]) | skip)
  have H' := zA H
  clear H
  go_wp2
  go_meet
  case rel => exact ⟨_, (false), (s0_1), (s0_2), zs, H', ⟨by first | omega | exact Nat.le_refl _⟩, ⟨zR BK411.out⟩, ⟨Z140.uB HI0.out NB0_411.out⟩, ⟨yB HK.out GW411.out⟩, ⟨zV HB.out (Z140.ge HI0.out) GE411.out⟩⟩
 case rest =>
  clear HC3
  try clear c1
  try clear c5
  obtain ⟨kq, x16_2, x1001_2, x1002_2, rfl, HA, HJ2, BK411, HI0, HK, HB⟩ := hcut
  cases kq with
  | zero => exact absurd HA.out (by simp [spec_l02Draw.j0])
  | succ kj2 =>
   have H := HA.out
   clear HA
   simp only [spec_l02Draw.j0] at H
   by_cases c8 : x16_2 = true
   ·subst c8
    rw [if_pos rfl] at H
    obtain ⟨y415, hy415⟩ : ∃ y_ : List Int, y_ = (([11, 7, 14, 13] : List Int)) := ⟨_, rfl⟩
    replace H : (some (4, y415, x1001_2, x1002_2)) = some (r1, r2, r3, r4) := zy hy415 H
    have Ny415 := zA hy415
    clear hy415
    simp only [Option.some.injEq, Prod.mk.injEq] at H
    obtain ⟨rfl, rfl, rfl, rfl⟩ := H
    go_wp2_with (first | ((with_reducible refine kS (N := 17) rfl ?_); refine Kd.R_lit (Kd.int .i64) _ 2 ?hg (N := 17) ?hd (xs := ([11, 7, 14, 13] : List Int)) (inner := [.int .i64 11, .int .i64 7, .int .i64 14, .int .i64 13]) (ok := fun _ => True) (okp := fun _ => True) ?hr ?hp (fun _ hk => hk) trivial (kW _ _) (Nat.le_refl _) (by simp) ?_; (case hd => rfl); (case hg => rfl); (case hr => first | (go_simp; done) | (go_simp; rfl)); (case hp => exact (Reps.one (show Kd.M (Kd.int .i64) _ _ _ 11 [.int .i64 11] from rfl) (Reps.one (show Kd.M (Kd.int .i64) _ _ _ 7 [.int .i64 7] from rfl) (Reps.one (show Kd.M (Kd.int .i64) _ _ _ 14 [.int .i64 14] from rfl) (Reps.one (show Kd.M (Kd.int .i64) _ _ _ 13 [.int .i64 13] from rfl) (Reps.none _ _)))))); intro v416 w9 ho10 hb hg_ hnew_; clear hg_ hnew_; (first | rw [← Ny415.out] at ho10 | (simp only [Int.reduceToNat] at ho10; rw [← Ny415.out] at ho10)); have HO417 := zA (kI ho10 (kX (w := w) (g := g) (row := none) (yB HK.out GW411.out))); replace BK411 := zA (zB1 BK411.out hb); replace HK := zA (kT (yB HK.out GW411.out) (kU hb g none) (.inl rfl)); replace HB := zA (kQ (zV HB.out (Z140.ge HI0.out) GE411.out) hb); replace HI0 := zA (Z140.below (Z140.uB HI0.out NB0_411.out) hb); clear hb ho10; obtain ⟨Ao11, co11, eo11⟩ := kM HO417.out; subst eo11; have hnb12 := NB411_0.out; have hnc12 := NB0_411.out; obtain ⟨hcz13_0, hcz13_1, hfz13_0, hfz13_1⟩ := zB3 BK411.out))
    refine bodyPost_ret (results_cell_row rfl _ _ gb411 29 #[.int .i64 4, .slice Ao11 y415.length co11] (0, 0) _ rfl (zRP BK411.out) Tryd.underlying29 rfl (by kernel_rfl)) rfl ?_
    exact ⟨_, zr, by (with_reducible repeat (first | apply zF | apply zG | apply zH)); exact kA (kY (p := ⟨gb411, 1, none⟩) (kY (p := ⟨gb411, 0, none⟩) (kD HO417.out BK411.out (by decide)) (fun _ hk => hk.2) (.int .i64 4)) (fun _ hk => hk.2) (.slice Ao11 y415.length co11)) (fun _ hk => trivial), by repeat (first | (with_reducible first | exact HI0.out | apply Z140.alloc | apply Z140.drewN | apply Z140.drew | apply Z140.set_1 | apply Z140.set_2 | refine Z140.far ?_ NB0_411.out _) | exact HI0.out), zV HB.out (Z140.ge HI0.out) GE411.out, by repeat (first | (with_reducible first | exact HK.out | apply KeepBut.set_ | apply keep_drewN | apply keep_drew | apply keep_alloc | refine keep_far ?_ GW411.out _) | exact HK.out)⟩
   replace c8 := Bool.eq_false_iff.mpr c8
   subst c8
   rw [if_neg (show ¬ (false = true) by decide)] at H
   obtain ⟨⟨t418, t419, t420⟩, A14, H⟩ := zb H
   try dsimp only at H
   have HC15 := zA H
   clear H
   go_upto_if 24 with (first | (refine zO (some 22) Tryd.func128 #[.pointer (some ⟨g, 0, none⟩), .int .i64 (wrap64 (a1 + 1))] ?_; (with_reducible refine (spec_l01Next.calls g s0_0 x1001_2 x1002_2 (wrap64 (a1 + 1)) t418 t419 t420 w0 _ ?side1 ?side2 A14.out).mono ?_); (case side1 => exact Z140.uB HI0.out NB0_411.out); (case side2 => exact zV HB.out (Z140.ge HI0.out) GE411.out); rintro e w16 ⟨rfl, hi, hb, hk⟩; refine ⟨_, rfl, ?_⟩; replace BK411 := zA (zB2 hk BK411.out NB411_0.out); replace HK := zA (kT (yB HK.out GW411.out) hk (.inl rfl)); replace HB := zA (hb); replace HI0 := zA (hi); (try clear hb); (try clear hk); (try clear hi)))
   (try simp only [Act.put, zL, zM, zN])
   go_cut [5] (fun v5 wc => ∃ (kq : Nat) (x5_14 : Int) (x1001_14 : Int) (x1002_14 : Int), v5 = .int .i64 x5_14 ∧ Aside0 (spec_l02Draw.j1 kq x5_14 s0_0 x1001_14 x1002_14 = some (r1, r2, r3, r4)) ∧ Aside0 (kq ≤ kj2) ∧ Aside0 (wc.heap[gb411]? = some (.cells #[.int .i64 0, (.slice none 0 0)] 29 (0, 0))) ∧ Aside0 (Z140 w0 wc g s0_0 x1001_14 x1002_14) ∧ Aside0 (KeepBut w wc g none) ∧ Aside0 (Below w0.heap.size w0 wc))
   case first =>
    have H := HC15.out
    clear HC15
    by_cases c17 : t418 < 2
    ·rw [if_pos c17] at H
     have c17b0 : decide (t418 < 2) = true := decide_eq_true c17
     clear c17
     (first | rw [c17b0] | (simp only [i64_w, i32_w]; rw [c17b0]) | skip)
     obtain ⟨⟨t421, t422, t423⟩, A18, H⟩ := zb H
     try dsimp only at H
     have H' := zA H
     clear H
     go_wp2_with (first | (refine zO (some 28) Tryd.func128 #[.pointer (some ⟨g, 0, none⟩), .int .i64 (wrap64 (a1 + 1))] ?_; (with_reducible refine (spec_l01Next.calls g s0_0 t419 t420 (wrap64 (a1 + 1)) t421 t422 t423 w0 _ ?side1 ?side2 A18.out).mono ?_); (case side1 => exact Z140.uB HI0.out NB0_411.out); (case side2 => exact zV HB.out (Z140.ge HI0.out) GE411.out); rintro e w19 ⟨rfl, hi, hb, hk⟩; refine ⟨_, rfl, ?_⟩; replace BK411 := zA (zB2 hk BK411.out NB411_0.out); replace HK := zA (kT (yB HK.out GW411.out) hk (.inl rfl)); replace HB := zA (hb); replace HI0 := zA (hi); (try clear hb); (try clear hk); (try clear hi)))
     go_meet
     case rel => exact ⟨_, (t421), (t422), (t423), zs, H', ⟨by have := HJ2.out; first | omega | exact Nat.le_refl _⟩, ⟨zR BK411.out⟩, ⟨Z140.uB HI0.out NB0_411.out⟩, ⟨yB HK.out GW411.out⟩, ⟨zV HB.out (Z140.ge HI0.out) GE411.out⟩⟩
    rw [if_neg c17] at H
    have c17b0 : decide (t418 < 2) = false := decide_eq_false c17
    clear c17
    (first | rw [c17b0] | (simp only [i64_w, i32_w]; rw [c17b0]) | skip)
    have H' := zA H
    clear H
    go_wp2
    go_meet
    case rel => exact ⟨_, (t418), (t419), (t420), zs, H', ⟨by have := HJ2.out; first | omega | exact Nat.le_refl _⟩, ⟨zR BK411.out⟩, ⟨Z140.uB HI0.out NB0_411.out⟩, ⟨yB HK.out GW411.out⟩, ⟨zV HB.out (Z140.ge HI0.out) GE411.out⟩⟩
   case rest =>
    clear HC15
    try clear c1
    try clear c5
    try clear c8
    try clear c12
    try clear c17
    try clear hcz13_0
    try clear hcz13_1
    try clear hfz13_0
    try clear hfz13_1
    obtain ⟨kq, x5_14, x1001_14, x1002_14, rfl, HA, HJ14, BK411, HI0, HK, HB⟩ := hcut
    cases kq with
    | zero => exact absurd HA.out (by simp [spec_l02Draw.j1])
    | succ kj14 =>
     have H := HA.out
     clear HA
     simp only [spec_l02Draw.j1] at H
     obtain ⟨⟨t424, t425⟩, A20, H⟩ := zb H
     try dsimp only at H
     obtain ⟨y428, hy428⟩ : ∃ y_ : List Int, y_ = (([2, 2, 3, 4] : List Int)) := ⟨_, rfl⟩
     replace H : ((spec_l01Pick.f s0_0 x1001_14 x1002_14 y428).bind fun bt431 => (spec_l02Draw.l0 kj14 x5_14 bt431.1 0 s0_0 bt431.2.1 bt431.2.2 t424 t425)) = some (r1, r2, r3, r4) := zy hy428 H
     have Ny428 := zA hy428
     clear hy428
     obtain ⟨⟨t431, t432, t433⟩, A21, H⟩ := zb H
     try dsimp only at H
     have H' := zA H
     clear H
     go_wp2_with (first | (refine zO (some 30) Tryd.func183 #[.int .i64 x5_14] ?_; (with_reducible refine (spec_l02Free.calls kj14 x5_14 t424 t425 _ A20.out).mono ?_); rintro e w22 ⟨v426, rfl, ho0, hb⟩; refine ⟨_, rfl, ?_⟩; have HO427 := zA (kI ho0 (kX (w := w) (g := g) (row := none) (yB HK.out GW411.out))); replace BK411 := zA (zB1 BK411.out hb); replace HK := zA (kT (yB HK.out GW411.out) (kU hb g none) (.inl rfl)); replace HB := zA (kQ (zV HB.out (Z140.ge HI0.out) GE411.out) hb); replace HI0 := zA (Z140.below (Z140.uB HI0.out NB0_411.out) hb); (try clear hb); (try clear ho0)) | ((with_reducible refine kS (N := 32) rfl ?_); refine Kd.R_lit (Kd.int .i64) _ 2 ?hg (N := 32) ?hd (xs := ([2, 2, 3, 4] : List Int)) (inner := [.int .i64 2, .int .i64 2, .int .i64 3, .int .i64 4]) (ok := fun _ => True) (okp := fun _ => True) ?hr ?hp (fun _ hk => hk) trivial (kW _ _) (Nat.le_refl _) (by simp) ?_; (case hd => rfl); (case hg => rfl); (case hr => first | (go_simp; done) | (go_simp; rfl)); (case hp => exact (Reps.one (show Kd.M (Kd.int .i64) _ _ _ 2 [.int .i64 2] from rfl) (Reps.one (show Kd.M (Kd.int .i64) _ _ _ 2 [.int .i64 2] from rfl) (Reps.one (show Kd.M (Kd.int .i64) _ _ _ 3 [.int .i64 3] from rfl) (Reps.one (show Kd.M (Kd.int .i64) _ _ _ 4 [.int .i64 4] from rfl) (Reps.none _ _)))))); intro v429 w23 ho24 hb hg_ hnew_; clear hg_ hnew_; (first | rw [← Ny428.out] at ho24 | (simp only [Int.reduceToNat] at ho24; rw [← Ny428.out] at ho24)); have HO430 := zA (kI (kF ho24 (kH (zP HO427.out))) (kX (w := w) (g := g) (row := none) (yB HK.out GW411.out))); replace HO427 := zA (kE (zP HO427.out) (kC ho24) hb); replace BK411 := zA (zB1 BK411.out hb); replace HK := zA (kT (yB HK.out GW411.out) (kU hb g none) (.inl rfl)); replace HB := zA (kQ (zV HB.out (Z140.ge HI0.out) GE411.out) hb); replace HI0 := zA (Z140.below (Z140.uB HI0.out NB0_411.out) hb); clear hb ho24; obtain ⟨Ao25, co25, eo25⟩ := kM HO430.out; subst eo25) | (refine zO (some 33) Tryd.func181 #[.pointer (some ⟨g, 0, none⟩), .slice Ao25 y428.length co25] ?_; (with_reducible refine (spec_l01Pick.calls g s0_0 x1001_14 x1002_14 _ _ y428 t431 t432 t433 w0 _ ?side1 ?side2 ?side3 ?side4 ?side5 A21.out).mono ?_); (case side1 => exact Z140.uB HI0.out NB0_411.out); (case side2 => exact zV HB.out (Z140.ge HI0.out) GE411.out); (case side3 => exact zS (kB HO430.out).2.2); (case side4 => exact (kB HO430.out).2.1); (case side5 => exact jJ (Z140.own_ne HI0.out HO430.out (by decide))); rintro e w26 ⟨rfl, hi, hb, hk⟩; refine ⟨_, rfl, ?_⟩; replace BK411 := zA (zB2 hk BK411.out NB411_0.out); replace HO427 := zA (zB9 (Z140.apart (show Z140 w0 _ g s0_0 x1001_14 x1002_14 from Z140.uB HI0.out NB0_411.out) (zP HO427.out) (by decide)) hk); replace HO430 := zA (zB9 (Z140.apart (show Z140 w0 _ g s0_0 x1001_14 x1002_14 from Z140.uB HI0.out NB0_411.out) (zP HO430.out) (by decide)) hk); replace HK := zA (kT (yB HK.out GW411.out) hk (.inl rfl)); replace HB := zA (hb); replace HI0 := zA (hi); (try clear hb); (try clear hk); (try clear hi)) | (refine zBE 6 #[.int .i64 0, .slice none 0 0] 29 ?_; intro gb434 hg w27 hbox hb; replace HO427 := zA (kL (zP HO427.out) hb); replace HO430 := zA (kL (zP HO430.out) hb); replace HB := zA (kQ (zV HB.out (Z140.ge HI0.out) GE411.out) hb); have BK434 := zA (hbox); have GW434 := zA (zB6 hg (kX (w := w) (g := g) (row := none) (yB HK.out GW411.out)) : w.heap.size ≤ gb434); have GE434 := zA ((Nat.le_trans HW0.out (by rw [hg]; exact (kX (w := w) (g := g) (row := none) (yB HK.out GW411.out)) : w.heap.size ≤ gb434) : w0.heap.size ≤ gb434)); replace HK := zA (kT (yB HK.out GW411.out) (kU hb g none) (.inl rfl)); have NB411_434 := zA (zB4 hg BK411.out : gb411 ≠ gb434); have NB434_411 := zA (zB5 hg BK411.out : gb434 ≠ gb411); replace BK411 := zA (zB1 BK411.out hb); have NB0_434 := zA (zB7 hg (Z140.lt (show Z140 w0 _ g s0_0 t432 t433 from Z140.uB HI0.out NB0_411.out)) : g ≠ gb434); have NB434_0 := zA (zB8 hg (Z140.lt (show Z140 w0 _ g s0_0 t432 t433 from Z140.uB HI0.out NB0_411.out)) : gb434 ≠ g); replace HI0 := zA (Z140.below (Z140.uB HI0.out NB0_411.out) hb); clear hb hbox hg; have hnb28 := NB434_411.out; have hnc28 := NB411_434.out; have hnb29 := NB434_0.out; have hnc29 := NB0_434.out; obtain ⟨hcz30_0, hcz30_1, hfz30_0, hfz30_1⟩ := zB3 BK434.out; obtain ⟨Ao31, co31, eo31⟩ := kM HO427.out; subst eo31))
     go_loopg [8] kj14 (fun kq v8 w' => ∃ (x8_3 : Int) (x1001_3 : Int) (x1002_3 : Int) (x435001_3 : List Int) (u435001 : Value), v8 = .int .i64 x8_3 ∧ Aside0 (spec_l02Draw.l0 kq x5_14 t431 x8_3 s0_0 x1001_3 x1002_3 t424 x435001_3 = some (r1, r2, r3, r4)) ∧ Aside0 (kq ≤ kj14) ∧ Aside0 (Kd.R (Kd.int .i64) 2 w' w.heap.size (fun _ => True) u435001 x435001_3) ∧ Aside0 (w'.heap[gb411]? = some (.cells #[.int .i64 0, (.slice none 0 0)] 29 (0, 0))) ∧ Aside0 (w'.heap[gb434]? = some (.cells #[.int .i64 t424, u435001] 29 (0, 0))) ∧ Aside0 (Z140 w0 w' g s0_0 x1001_3 x1002_3) ∧ Aside0 (KeepBut w w' g none) ∧ Aside0 (Below w0.heap.size w0 w'))
     case atStart => exact ⟨(0), (t432), (t433), (t425), (.slice Ao31 t425.length co31), zs, H', ⟨Nat.le_refl _⟩, ⟨by (with_reducible repeat (first | apply zF | apply zG | apply zH)); exact kA (kY (p := ⟨gb434, 1, none⟩) (kY (p := ⟨gb434, 0, none⟩) (kD HO427.out BK434.out (by decide)) (fun _ hk => hk.2) (.int .i64 t424)) (fun _ hk => hk.2) (.slice Ao31 t425.length co31)) (fun _ hk => trivial)⟩, ⟨by (with_reducible repeat (first | refine zJ ?_ _ | refine zK ?_ | refine zI ?_ _)); refine blk_far ?_ NB411_434.out _; (with_reducible repeat (first | refine zJ ?_ _ | refine zK ?_ | refine zI ?_ _)); refine blk_far ?_ NB411_434.out _; (with_reducible repeat (first | refine zJ ?_ _ | refine zK ?_ | refine zI ?_ _)); exact BK411.out⟩, ⟨by (with_reducible repeat (first | refine zJ ?_ _ | refine zK ?_ | refine zI ?_ _)); refine blk_put (cs := #[.int .i64 t424, .slice none 0 0]) ?_ 1 _ rfl; (with_reducible repeat (first | refine zJ ?_ _ | refine zK ?_ | refine zI ?_ _)); refine blk_put (cs := #[.int .i64 0, .slice none 0 0]) ?_ 0 _ rfl; (with_reducible repeat (first | refine zJ ?_ _ | refine zK ?_ | refine zI ?_ _)); exact BK434.out⟩, ⟨Z140.uC HI0.out NB0_411.out NB0_434.out⟩, ⟨yC HK.out GW411.out GW434.out⟩, ⟨zW HB.out (Z140.ge HI0.out) GE411.out GE434.out⟩⟩
     case round =>
      clear H'
      try clear c1
      try clear c2
      try clear c5
      try clear c8
      try clear c12
      try clear c17
      try clear c18
      try clear c28
      try clear c29
      try clear hcz13_0
      try clear hcz13_1
      try clear hcz30_0
      try clear hcz30_1
      try clear hfz13_0
      try clear hfz13_1
      try clear hfz30_0
      try clear hfz30_1
      obtain ⟨x8_3, x1001_3, x1002_3, x435001_3, u435001, rfl, HA, HK3, HO_435001, BK411, BK434, HI0, HK, HB⟩ := hrel
      cases gk with
      | zero => exact absurd HA.out (by simp [spec_l02Draw.l0])
      | succ k3 =>
       have H := HA.out
       clear HA
       simp only [spec_l02Draw.l0] at H
       by_cases c32 : x8_3 < x5_14
       ·rw [if_pos c32] at H
        have c32b0 : decide (x8_3 < x5_14) = true := decide_eq_true c32
        clear c32
        have H' := zA H
        clear H
        go_wp2
        go_loopg [9] k3 (fun kq v9 w' => ∃ (x9_4 : Int) (x1001_4 : Int) (x1002_4 : Int) (x435001_4 : List Int) (u435001 : Value), v9 = .int .i64 x9_4 ∧ Aside0 (spec_l02Draw.l1 kq x5_14 t431 x8_3 x9_4 s0_0 x1001_4 x1002_4 t424 x435001_4 = some (r1, r2, r3, r4)) ∧ Aside0 (kq ≤ k3) ∧ Aside0 (Kd.R (Kd.int .i64) 2 w' w.heap.size (fun _ => True) u435001 x435001_4) ∧ Aside0 (w'.heap[gb411]? = some (.cells #[.int .i64 0, (.slice none 0 0)] 29 (0, 0))) ∧ Aside0 (w'.heap[gb434]? = some (.cells #[.int .i64 t424, u435001] 29 (0, 0))) ∧ Aside0 (Z140 w0 w' g s0_0 x1001_4 x1002_4) ∧ Aside0 (KeepBut w w' g none) ∧ Aside0 (Below w0.heap.size w0 w'))
        case atStart => exact ⟨(0), (x1001_3), (x1002_3), (x435001_3), (u435001), zs, H', ⟨Nat.le_refl _⟩, ⟨zP HO_435001.out⟩, ⟨zR BK411.out⟩, ⟨zR BK434.out⟩, ⟨Z140.uC HI0.out NB0_411.out NB0_434.out⟩, ⟨yC HK.out GW411.out GW434.out⟩, ⟨zW HB.out (Z140.ge HI0.out) GE411.out GE434.out⟩⟩
        case round =>
         clear H'
         try clear c1
         try clear c2
         try clear c3
         try clear c5
         try clear c8
         try clear c12
         try clear c17
         try clear c18
         try clear c28
         try clear c29
         try clear c32
         try clear hcz13_0
         try clear hcz13_1
         try clear hcz30_0
         try clear hcz30_1
         try clear hfz13_0
         try clear hfz13_1
         try clear hfz30_0
         try clear hfz30_1
         obtain ⟨x9_4, x1001_4, x1002_4, x435001_4, u435001, rfl, HA, HK4, HO_435001, BK411, BK434, HI0, HK, HB⟩ := hrel
         cases gk with
         | zero => exact absurd HA.out (by simp [spec_l02Draw.l1])
         | succ k4 =>
          have H := HA.out
          clear HA
          simp only [spec_l02Draw.l1] at H
          by_cases c33 : x9_4 < x8_3
          ·rw [if_pos c33] at H
           have c33b0 : decide (x9_4 < x8_3) = true := decide_eq_true c33
           clear c33
           obtain ⟨⟨t435, t436, t437⟩, A34, H⟩ := zb H
           try dsimp only at H
           by_cases c35 : t435 = 0
           ·rw [if_pos c35] at H
            obtain ⟨c35b0, c35b1⟩ := zT1 c35
            clear c35
            obtain ⟨t438, A36, H⟩ := zb H
            try dsimp only at H
            have H' := zA H
            clear H
            go_wp2_with (first | (refine zO (some 46) Tryd.func128 #[.pointer (some ⟨g, 0, none⟩), .int .i64 t431] ?_; (with_reducible refine (spec_l01Next.calls g s0_0 x1001_4 x1002_4 t431 t435 t436 t437 w0 _ ?side1 ?side2 A34.out).mono ?_); (case side1 => exact Z140.uC HI0.out NB0_411.out NB0_434.out); (case side2 => exact zW HB.out (Z140.ge HI0.out) GE411.out GE434.out); rintro e w37 ⟨rfl, hi, hb, hk⟩; refine ⟨_, rfl, ?_⟩; replace HO_435001 := zA (zB9 (Z140.apart (show Z140 w0 _ g s0_0 x1001_4 x1002_4 from Z140.uC HI0.out NB0_411.out NB0_434.out) (zP HO_435001.out) (by decide)) hk); replace BK411 := zA (zB2 hk BK411.out NB411_0.out); replace BK434 := zA (zB2 hk BK434.out NB434_0.out); replace HK := zA (kT (yC HK.out GW411.out GW434.out) hk (.inl rfl)); replace HB := zA (hb); replace HI0 := zA (hi); (try clear hb); (try clear hk); (try clear hi); have hnb38 := NB434_411.out; have hnc38 := NB411_434.out; have hnb39 := NB434_0.out; have hnc39 := NB0_434.out; obtain ⟨hcz40_0, hcz40_1, hfz40_0, hfz40_1⟩ := zB3 BK434.out; obtain ⟨Ao41, co41, eo41⟩ := kM HO_435001.out; subst eo41) | (refine zO (some 51) Tryd.func185 #[.agg #[.int .i64 t424, .slice Ao41 x435001_4.length co41], .int .i64 x8_3, .int .i64 x9_4] ?_; (with_reducible refine (spec_l02Join.calls t424 (fun k_ => some k_ = (.slice Ao41 x435001_4.length co41 : Value).ownBlock) (.slice Ao41 x435001_4.length co41) x435001_4 x8_3 x9_4 t438 w0 _ ?side1 ?side2 A36.out).mono ?_); (case side1 => exact zW HB.out (Z140.ge HI0.out) GE411.out GE434.out); (case side2 => exact kI (jK rfl HO_435001.out) HL.out); rintro e w42 ⟨rfl, hy0, hb, hkp⟩; refine ⟨_, rfl, ?_⟩; have n0_ := zA (Kd.R_reok rfl (Kd.R_raise (d := (Kd.int .i64)) (b := w0.heap.size) (b' := w.heap.size) (fun _ _ _ _ h_ => h_) hy0 (fun k_ e_ => Or.elim (hy0.1 k_ e_) (fun hs_ => (fun e_ => kC HO_435001.out k_ e_.symm) hs_) (fun hn_ => Nat.le_trans (kX (w := w) (g := g) (row := none) (yC HK.out GW411.out GW434.out)) hn_))) (fun k_ e_ => HO_435001.out.1 k_ e_)); have n1_ := zA (blk_kept (zR BK411.out) hkp (fun hs_ => (fun e_ => (Kd.R_ne HO_435001.out BK411.out (by decide)) e_) hs_)); have n2_ := zA (blk_kept (zR BK434.out) hkp (fun hs_ => (fun e_ => (Kd.R_ne HO_435001.out BK434.out (by decide)) e_) hs_)); have n3_ := zA (Z140.kept (Z140.uC HI0.out NB0_411.out NB0_434.out) hkp (fun hs_ => (fun e_ => (Z140.own_ne HI0.out HO_435001.out (by decide)) e_) hs_)); have n4_ := zA (Kept.keepG (yC HK.out GW411.out GW434.out) hkp (fun k_ hs_ => (fun e_ => .inr (kC HO_435001.out k_ e_.symm)) hs_)); have n5_ := zA (hb); clear HO_435001; clear BK411; clear BK434; clear HI0; clear HK; clear HB; have HO_435001 := n0_; have BK411 := n1_; have BK434 := n2_; have HI0 := n3_; have HK := n4_; have HB := n5_; clear n0_ n1_ n2_ n3_ n4_ n5_; (try clear hb); (try clear hkp); (try clear hy0)))
            go_roundg k4
            case measure => have := HJ2.out; have := HJ14.out; have := HK3.out; have := HK4.out; omega
            case rel => exact ⟨(wrap64 (x9_4 + 1)), (t436), (t437), (t438), (.slice Ao41 x435001_4.length co41), zs, H', ⟨by have := HJ2.out; have := HJ14.out; have := HK3.out; have := HK4.out; omega⟩, ⟨zP HO_435001.out⟩, ⟨zR BK411.out⟩, ⟨zR BK434.out⟩, ⟨Z140.uC HI0.out NB0_411.out NB0_434.out⟩, ⟨yC HK.out GW411.out GW434.out⟩, ⟨zW HB.out (Z140.ge HI0.out) GE411.out GE434.out⟩⟩
           rw [if_neg c35] at H
           obtain ⟨c35b0, c35b1⟩ := zT2 c35
           have H' := zA H
           clear H
           go_wp2_with (first | (refine zO (some 46) Tryd.func128 #[.pointer (some ⟨g, 0, none⟩), .int .i64 t431] ?_; (with_reducible refine (spec_l01Next.calls g s0_0 x1001_4 x1002_4 t431 t435 t436 t437 w0 _ ?side1 ?side2 A34.out).mono ?_); (case side1 => exact Z140.uC HI0.out NB0_411.out NB0_434.out); (case side2 => exact zW HB.out (Z140.ge HI0.out) GE411.out GE434.out); rintro e w43 ⟨rfl, hi, hb, hk⟩; refine ⟨_, rfl, ?_⟩; replace HO_435001 := zA (zB9 (Z140.apart (show Z140 w0 _ g s0_0 x1001_4 x1002_4 from Z140.uC HI0.out NB0_411.out NB0_434.out) (zP HO_435001.out) (by decide)) hk); replace BK411 := zA (zB2 hk BK411.out NB411_0.out); replace BK434 := zA (zB2 hk BK434.out NB434_0.out); replace HK := zA (kT (yC HK.out GW411.out GW434.out) hk (.inl rfl)); replace HB := zA (hb); replace HI0 := zA (hi); (try clear hb); (try clear hk); (try clear hi)))
           go_roundg k4
           case measure => have := HJ2.out; have := HJ14.out; have := HK3.out; have := HK4.out; omega
           case rel => exact ⟨(wrap64 (x9_4 + 1)), (t436), (t437), (x435001_4), (u435001), zs, H', ⟨by have := HJ2.out; have := HJ14.out; have := HK3.out; have := HK4.out; omega⟩, ⟨zP HO_435001.out⟩, ⟨zR BK411.out⟩, ⟨zR BK434.out⟩, ⟨Z140.uC HI0.out NB0_411.out NB0_434.out⟩, ⟨yC HK.out GW411.out GW434.out⟩, ⟨zW HB.out (Z140.ge HI0.out) GE411.out GE434.out⟩⟩
          rw [if_neg c33] at H
          have c33b0 : decide (x9_4 < x8_3) = false := decide_eq_false c33
          clear c33
          have H' := zA H
          clear H
          go_wp2
          go_roundg k4
          case measure => have := HJ2.out; have := HJ14.out; have := HK3.out; have := HK4.out; omega
          case rel => exact ⟨(wrap64 (x8_3 + 1)), (x1001_4), (x1002_4), (x435001_4), (u435001), zs, H', ⟨by have := HJ2.out; have := HJ14.out; have := HK3.out; have := HK4.out; omega⟩, ⟨zP HO_435001.out⟩, ⟨zR BK411.out⟩, ⟨zR BK434.out⟩, ⟨Z140.uC HI0.out NB0_411.out NB0_434.out⟩, ⟨yC HK.out GW411.out GW434.out⟩, ⟨zW HB.out (Z140.ge HI0.out) GE411.out GE434.out⟩⟩
       rw [if_neg c32] at H
       have c32b0 : decide (x8_3 < x5_14) = false := decide_eq_false c32
       clear c32
       simp only [Option.some.injEq, Prod.mk.injEq] at H
       obtain ⟨rfl, rfl, rfl, rfl⟩ := H
       have hnb44 := NB434_411.out
       have hnc44 := NB411_434.out
       have hnb45 := NB434_0.out
       have hnc45 := NB0_434.out
       obtain ⟨hcz46_0, hcz46_1, hfz46_0, hfz46_1⟩ := zB3 BK434.out
       have hnb47 := NB411_0.out
       have hnc47 := NB0_411.out
       obtain ⟨hcz48_0, hcz48_1, hfz48_0, hfz48_1⟩ := zB3 BK411.out
       obtain ⟨Ao49, co49, eo49⟩ := kM HO_435001.out
       subst eo49
       go_wp2
       refine bodyPost_ret (results_cell_row rfl _ _ gb411 29 #[.int .i64 t424, .slice Ao49 x435001_3.length co49] (0, 0) _ rfl (zRP BK411.out) Tryd.underlying29 rfl (by kernel_rfl)) rfl ?_
       exact ⟨_, zr, by (with_reducible repeat (first | apply zF | apply zG | apply zH)); exact kA (kY (p := ⟨gb411, 1, none⟩) (kY (p := ⟨gb411, 0, none⟩) (kD HO_435001.out BK411.out (by decide)) (fun _ hk => hk.2) (.int .i64 t424)) (fun _ hk => hk.2) (.slice Ao49 x435001_3.length co49)) (fun _ hk => trivial), by repeat (first | (with_reducible first | exact HI0.out | apply Z140.alloc | apply Z140.drewN | apply Z140.drew | apply Z140.set_1 | apply Z140.set_2 | refine Z140.far ?_ NB0_411.out _ | refine Z140.far ?_ NB0_434.out _) | exact HI0.out), zW HB.out (Z140.ge HI0.out) GE411.out GE434.out, by repeat (first | (with_reducible first | exact HK.out | apply KeepBut.set_ | apply keep_drewN | apply keep_drew | apply keep_alloc | refine keep_far ?_ GW411.out _ | refine keep_far ?_ GW434.out _) | exact HK.out)⟩

end Go.Proofs.YthgapkbkhoeleaaDoor.PAll
