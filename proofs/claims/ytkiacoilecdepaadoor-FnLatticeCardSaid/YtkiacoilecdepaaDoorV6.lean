import Derived.Test.YtkiacoilecdepaaDoorPAllx10
import Derived.Test.YtkiacoilecdepaaDoorV0
import Derived.Test.YtkiacoilecdepaaDoorV1
import Derived.Test.YtkiacoilecdepaaDoorQBase
import Derived.Test.YtkiacoilecdepaaDoorQMask
import Derived.Test.YtkiacoilecdepaaDoorQOrder
import Derived.Test.YtkiacoilecdepaaDoorQTab
import Derived.Test.YtkiacoilecdepaaDoorQTrace
set_option linter.unusedVariables false
set_option linter.unusedSimpArgs false
namespace Go.Proofs.YtkiacoilecdepaaDoor.PAll
open Go.RowKit Go.Proofs.YtkiacoilecdepaaDoorW.PrintWords Go.Proofs.YtkiacoilecdepaaDoorW.PrintMore Go.Proofs.YtkiacoilecdepaaDoor.Q
theorem l01Below_ev (n : Nat) (hn : n ≤ 24) (f : Nat → Nat → Bool) (x : Nat) (hx : x < n) : Ev (fun k => spec_l01Below.f k (mat n f) (x : Int)) ((mk n (fun a => f a x) : Nat) : Int) := by
 have h24 := pow_lt62 hn
 have loop : ∀ (d i : Nat), i + d = n → Ev (fun k => spec_l01Below.l0 k (mat n f) (x : Int) ((mk n (fun a => decide (a < i) && f a x) : Nat) : Int) (i : Int)) ((mk n (fun a => f a x) : Nat) : Int) := by
  intro d
  induction d with
  | zero =>
   intro i hi
   refine Ev.succ ?_
   simp only [spec_l01Below.l0]
   refine Ev.neg (by simp; omega) (Ev.const ?_)
   rw [mk_congr (q := fun a => f a x) fun a ha => by simp [show a < i by omega]]
  | succ d ih =>
   intro i hi
   have i1 := ih (i + 1) (by omega)
   have h1 := mk_lt n (f i)
   have h2 := mk_lt n (fun a => decide (a < i) && f a x)
   have h3 : (2 : Nat) ^ i ≤ 2 ^ 24 := pow24 (by omega)
   refine Ev.succ ?_
   simp only [spec_l01Below.l0]
   refine Ev.pos (by simp; omega) (Ev.pos (by omega) ?_)
   rw [rd_mat n f i (by omega), l01Bit_eq _ x (mk62 (by omega) _) (by omega), testBit_mk]
   refine Ev.some_bind (Ev.ite (fun c => ?_) (fun c => ?_))
   ·have c' : f i x = true := by simpa [hx] using c
    rw [l01One_eq i (by omega), w64' (by omega)]
    refine Ev.some_bind ?_
    rw [b_or _ _ (mk62 (by omega) _) (two62 (by omega)), mk_or_one n _ i (by omega)]
    rw [mk_congr (q := fun a => decide (a < i + 1) && f a x) fun a ha => by
     by_cases e : a = i
     ·subst e; simp [c']
     ·by_cases e2 : a < i
      ·simp [e, e2, show a < i + 1 by omega]
      ·simp [e, e2, show ¬ a < i + 1 by omega]]
    exact i1
   ·have c' : f i x = false := by simpa [hx] using c
    rw [w64' (by omega)]
    rw [mk_congr (q := fun a => decide (a < i + 1) && f a x) fun a ha => by
     by_cases e : a = i
     ·subst e; simp [c']
     ·by_cases e2 : a < i
      ·simp [e2, show a < i + 1 by omega]
      ·simp [e2, show ¬ a < i + 1 by omega]]
    exact i1
 simp only [spec_l01Below.f]
 have := loop n 0 (by omega)
 have e : mk n (fun a => decide (a < 0) && f a x) = 0 := Nat.eq_of_testBit_eq fun i => by rw [testBit_mk]; simp
 rw [e] at this
 exact this
theorem l04Order_ev (n : Nat) (hn : n ≤ 8) (f : Nat → Nat → Bool) (w : List Nat) (hl : w.length ≤ 24) (hw : ∀ x ∈ w, x < n) : Ev (fun k => spec_l04Order.f k (n : Int) (mat n f) (ints w)) (mat w.length (ordP f w)) := by
 have h24 := pow_lt62 hl
 have hlast : ∀ i k, ordP f w i k = true ↔ i = k ∨ ∃ j, i ≤ j ∧ j < k ∧ ordP f w i j = true ∧ eP f w j k = true := fun i k => clos_last fun i k h => eP_lt h
 have hle : ∀ i k, ordP f w i k = true → i ≤ k := fun i k h => clos_le (fun i k h => (eP_lt h).1) h
 -- row i as far as position k
 let row : Nat → Nat → Nat := fun i k => mk w.length fun b => decide (b < k) && ordP f w i b
 have outer : ∀ (d i : Nat), i + d = w.length → Ev (fun q => spec_l04Order.l0 q (ints w) ((List.range i).map fun a => ((mk w.length (ordP f w a) : Nat) : Int)) (i : Int) (n : Int) (mat n f)) (mat w.length (ordP f w)) := by
  intro d
  induction d with
  | zero =>
   intro i hi
   obtain rfl : i = w.length := by omega
   refine Ev.succ ?_
   simp only [spec_l04Order.l0]
   exact Ev.neg (by simp) (Ev.now _)
  | succ d ih =>
   intro i hi
   have i1 := ih (i + 1) (by omega)
   rw [List.range_succ, List.map_append] at i1
   have one : 2 ^ i = mk w.length fun b => decide (b < i + 1) && ordP f w i b := bits_ext fun b => by
    rw [testBit_mk, testBit_one]
    by_cases e : i = b
    ·subst e
     have : ordP f w i i = true := clos_refl _ _
     simp [this, show i < w.length by omega]
    ·have : (decide (b < i + 1) && ordP f w i b) = false := by
      by_cases e2 : b < i
      ·have : ¬ ordP f w i b = true := fun h => by have := hle i b h; omega
       simpa [show b < i + 1 by omega] using this
      ·simp [show ¬ b < i + 1 by omega]
     simp [e, this]
   have mid : ∀ (e k : Nat), k + e = w.length → i < k → Ev (fun q => spec_l04Order.l1 q (ints w) ((List.range i).map fun a => ((mk w.length (ordP f w a) : Nat) : Int)) (i : Int) ((mk w.length (fun b => decide (b < k) && ordP f w i b) : Nat) : Int) (k : Int) (n : Int) (mat n f)) (mat w.length (ordP f w)) := by
    intro e
    induction e with
    | zero =>
     intro k hk hik
     refine Ev.succ ?_
     simp only [spec_l04Order.l1]
     refine Ev.neg (by simp; omega) (Ev.pos (by simp; omega) ?_)
     rw [w64' (by omega), mk_congr (q := ordP f w i) fun b hb => by simp [show b < k by omega]]
     exact i1
    | succ e ihe =>
     intro k hk hik
     have j1 := ihe (k + 1) (by omega) (by omega)
     have h3 : (2 : Nat) ^ k ≤ 2 ^ 24 := pow24 (by omega)
     -- the positions below j have been looked at
     have inner : ∀ (e2 j : Nat), j + e2 = k → i ≤ j → ∀ (B : Bool), (B = true ↔ ∃ j', i ≤ j' ∧ j' < j ∧ ordP f w i j' = true ∧ eP f w j' k = true) →
       Ev (fun q => spec_l04Order.l2 q (ints w) ((List.range i).map fun a => ((mk w.length (ordP f w a) : Nat) : Int)) (i : Int) ((mk w.length (fun b => (decide (b < k) && ordP f w i b) || (decide (b = k) && B)) : Nat) : Int) (k : Int) (j : Int) (n : Int) (mat n f)) (mat w.length (ordP f w)) := by
      intro e2
      induction e2 with
      | zero =>
       intro j hj hij B hB
       obtain rfl : j = k := by omega
       refine Ev.succ ?_
       simp only [spec_l04Order.l2]
       refine Ev.neg (by omega) ?_
       have hB' : B = ordP f w i j := by
        rw [Bool.eq_iff_iff, hB, hlast i j]
        constructor
        ·exact .inr
        ·rintro (h | h)
         ·omega
         ·exact h
       rw [w64' (by omega), mk_congr (q := fun b => decide (b < j + 1) && ordP f w i b) fun b hb => by
        by_cases e1 : b = j
        ·subst e1; simp [hB']
        ·by_cases e2 : b < j
         ·simp [e1, e2, show b < j + 1 by omega]
         ·simp [e1, e2, show ¬ b < j + 1 by omega]]
       exact j1
      | succ e2 ih2 =>
       intro j hj hij B hB
       have h1 := mk_lt w.length (fun b => (decide (b < k) && ordP f w i b) || (decide (b = k) && B))
       have hxj := getD_lt hw (show j < w.length by omega)
       have hxk := getD_lt hw (show k < w.length by omega)
       have hjk : j < k := by omega
       refine Ev.succ ?_
       simp only [spec_l04Order.l2]
       refine Ev.pos (by omega) ?_
       rw [l01Bit_eq _ j (mk62 (by omega) _) (by omega), testBit_mk]
       have hbit : (decide (j < w.length) && ((decide (j < k) && ordP f w i j) || (decide (j = k) && B))) = ordP f w i j := by simp [hjk, show j < w.length by omega, show ¬ j = k by omega]
       rw [hbit]
       have hee : eP f w j k = f (w.getD j 0) (w.getD k 0) := by simp [eP, hjk, show k < w.length by omega]
       refine Ev.some_bind (Ev.ite (fun c => ?_) (fun c => ?_))
       ·refine Ev.pos (by omega) (Ev.pos (by simp; omega) (Ev.pos (by omega) (Ev.pos (by simp; omega) ?_)))
        rw [rd_getD, rd_getD, l02Dep_eq n (by omega) f _ _ _ hxj hxk, l01One_eq k (by omega), w64' (by omega)]
        refine Ev.some_bind (Ev.ite (fun g => Ev.some_bind ?_) (fun g => ?_))
        ·rw [b_or _ _ (mk62 (by omega) _) (two62 (by omega)), mk_or_one w.length _ k (by omega)]
         have := ih2 (j + 1) (by omega) (by omega) true ⟨fun _ => ⟨j, hij, by omega, c, by rw [hee]; exact g⟩, fun _ => rfl⟩
         rw [mk_congr (q := fun b => (decide (b < k) && ordP f w i b) || (decide (b = k) && true)) fun b hb => by
          by_cases e1 : b = k
          ·subst e1; simp
          ·simp [e1]]
         exact this
        ·exact ih2 (j + 1) (by omega) (by omega) B (hB.trans ⟨fun ⟨j', a1, a2, a3⟩ => ⟨j', a1, by omega, a3⟩, fun ⟨j', a1, a2, a3, a4⟩ => by
          by_cases e1 : j' = j
          ·subst e1; rw [hee] at a4; exact absurd a4 g
          ·exact ⟨j', a1, by omega, a3, a4⟩⟩)
       ·rw [w64' (by omega)]
        exact ih2 (j + 1) (by omega) (by omega) B (hB.trans ⟨fun ⟨j', a1, a2, a3⟩ => ⟨j', a1, by omega, a3⟩, fun ⟨j', a1, a2, a3, a4⟩ => by
          by_cases e1 : j' = j
          ·subst e1; exact absurd a3 c
          ·exact ⟨j', a1, by omega, a3, a4⟩⟩)
     have := inner (k - i) i (by omega) (Nat.le_refl _) false ⟨by simp, fun ⟨j', a1, a2, _⟩ => by omega⟩
     rw [mk_congr (q := fun b => decide (b < k) && ordP f w i b) fun b hb => by simp] at this
     refine Ev.succ ?_
     simp only [spec_l04Order.l1]
     exact Ev.pos (by simp; omega) this
   have := mid (w.length - (i + 1)) (i + 1) (by omega) (by omega)
   rw [← one] at this
   refine Ev.succ ?_
   simp only [spec_l04Order.l0]
   refine Ev.pos (by simp; omega) ?_
   rw [l01One_eq i (by omega), w64' (by omega)]
   exact Ev.some_bind this
 simp only [spec_l04Order.f]
 exact outer w.length 0 (by omega)
theorem l04At_ev (w : List Nat) (hl : w.length ≤ 24) (M : Nat) (hM : M < 2 ^ 62) : Ev (fun k => spec_l04At.f k (ints w) (M : Int)) (ints (lettersP w M)) := by
 have loop : ∀ (d i : Nat), i + d = w.length → Ev (fun k => spec_l04At.l0 k (ints w) (M : Int) (ints (((List.range i).filter fun i => M.testBit i).map fun i => w.getD i 0)) (i : Int)) (ints (lettersP w M)) := by
  intro d
  induction d with
  | zero =>
   intro i hi
   obtain rfl : i = w.length := by omega
   refine Ev.succ ?_
   simp only [spec_l04At.l0]
   exact Ev.neg (by simp) (Ev.now _)
  | succ d ih =>
   intro i hi
   have i1 := ih (i + 1) (by omega)
   rw [pos_step] at i1
   have hlen : (((List.range i).filter fun i => M.testBit i).map fun i => w.getD i 0).length ≤ i := by
    rw [List.length_map]
    exact Nat.le_trans (List.length_filter_le _ _) (by simp)
   refine Ev.succ ?_
   simp only [spec_l04At.l0]
   refine Ev.pos (by simp; omega) ?_
   rw [l01Bit_eq M i hM (by omega), w64' (by omega)]
   refine Ev.some_bind (Ev.ite (fun h => ?_) (fun h => ?_))
   ·refine Ev.pos (by omega) (Ev.pos (by rw [ints_length]; omega) ?_)
    rw [if_pos h, ints_append] at i1
    rw [rd_getD]
    exact i1
   ·rw [if_neg h, List.append_nil] at i1
    exact i1
 simp only [spec_l04At.f]
 exact loop w.length 0 (by omega)
end Go.Proofs.YtkiacoilecdepaaDoor.PAll
