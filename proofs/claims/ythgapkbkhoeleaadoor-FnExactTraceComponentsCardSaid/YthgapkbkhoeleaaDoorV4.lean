import Derived.Test.YthgapkbkhoeleaaDoorPAllx0
import Derived.Test.YthgapkbkhoeleaaDoorPAllx4
import Derived.Test.YthgapkbkhoeleaaDoorV0
import Derived.Test.YthgapkbkhoeleaaDoorQBase
import Derived.Test.YthgapkbkhoeleaaDoorQMeet
import Derived.Test.YthgapkbkhoeleaaDoorQTrace
set_option linter.unusedVariables false
set_option linter.unusedSimpArgs false
namespace Go.Proofs.YthgapkbkhoeleaaDoor.PAll
open Go.RowKit Go.Proofs.YthgapkbkhoeleaaDoorW.PrintWords Go.Proofs.YthgapkbkhoeleaaDoorW.PrintMore Go.Proofs.YthgapkbkhoeleaaDoor.Q
theorem toInt64S_l0 (x : List Int) (hx : x.length ≤ 17592186044416) : ∀ (d i : Nat) (acc : List Int), i + d = x.length → acc.length = x.length → (∀ j, j < i → acc[j]? = x[j]?) →
    Ev (fun k => laws_toInt64S.l0 k x acc i) x := by
  intro d
  induction d with
  | zero =>
    intro i acc hi hl hp
    refine Ev.succ ?_
    simp only [laws_toInt64S.l0]
    refine Ev.neg (by omega) (Ev.const ?_)
    congr 1
    apply List.ext_getElem? 
    intro j
    by_cases hj : j < i
    · exact hp j hj
    · rw [List.getElem?_eq_none (by omega), List.getElem?_eq_none (by omega)]
  | succ d ih =>
    intro i acc hi hl hp
    refine Ev.succ ?_
    simp only [laws_toInt64S.l0]
    refine Ev.pos (by omega) (Ev.pos (by omega) (Ev.pos (by omega) ?_))
    rw [w64' (by omega)]
    refine Ev.congr (fun k => ?_) (ih (i + 1) (acc.set i x[i]) (by omega) (by simpa using hl) ?_)
    · rw [rd_lt x i (by omega)]
      simp
    · intro j hj
      by_cases e : j = i
      · subst e
        simp [hl, show j < x.length by omega]
      · rw [List.getElem?_set_ne (by omega)]
        exact hp j (by omega)

theorem toInt64S_ev (x : List Int) (hx : x.length ≤ 17592186044416) : Ev (fun k => laws_toInt64S.f k x) x := by
  simp only [laws_toInt64S.f]
  refine Ev.pos (by omega) (Ev.pos (by omega) ?_)
  exact toInt64S_l0 x hx x.length 0 _ (by omega) (by simp) (by intro j hj; omega)
theorem eqInt64S_l0 (x : List Int) (hx : x.length ≤ 17592186044416) : ∀ (d i : Nat), i + d = x.length → Ev (fun k => laws_eqInt64S.l0 k x x i) true := by
  intro d
  induction d with
  | zero =>
    intro i hi
    refine Ev.succ ?_
    simp only [laws_eqInt64S.l0]
    exact Ev.neg (by omega) (Ev.now _)
  | succ d ih =>
    intro i hi
    refine Ev.succ ?_
    simp only [laws_eqInt64S.l0]
    refine Ev.pos (by omega) (Ev.pos (by omega) (Ev.pos (by omega) (Ev.pos (by simp) ?_)))
    rw [w64' (by omega)]
    exact ih (i + 1) (by omega)

theorem eqInt64S_ev (x : List Int) (hx : x.length ≤ 17592186044416) : Ev (fun k => laws_eqInt64S.f k x x) true := by
  simp only [laws_eqInt64S.f]
  exact Ev.pos (by simp) (eqInt64S_l0 x hx x.length 0 (by omega))
theorem markInt64S_l0 : ∀ (d i : Nat) (x : List Int) (c : Int), i + d = x.length → x.length ≤ 17592186044416 → 0 ≤ c → c + d ≤ 9000000000000000000 →
    Ev (fun k => laws_markInt64S.l0 k x c i) (c + d, marks x i c) := by
  intro d
  induction d with
  | zero =>
    intro i x c hi hx h0 h1
    refine Ev.succ ?_
    simp only [laws_markInt64S.l0]
    refine Ev.neg (by omega) (Ev.const ?_)
    simp [marks, show x.length - i = 0 by omega, List.take_of_length_le (show x.length ≤ i by omega)]
  | succ d ih =>
    intro i x c hi hx h0 h1
    refine Ev.succ ?_
    simp only [laws_markInt64S.l0]
    refine Ev.pos (by omega) (Ev.pos (by omega) ?_)
    rw [w64' (by omega), w64' (by omega)]
    refine Ev.val (ih (i + 1) (x.set i c) (c + 1) (by simpa using (by omega : i + 1 + d = x.length)) (by simpa using hx) (by omega) (by omega)) ?_
    rw [marks_set x i c (by omega)]
    congr 1
    omega

theorem markInt64S_ev (x : List Int) (c : Int) (hx : x.length ≤ 17592186044416) (h0 : 0 ≤ c) (h1 : c ≤ 8000000000000000000) : Ev (fun k => laws_markInt64S.f k x c) (c + x.length, marks x 0 c) := by
  simp only [laws_markInt64S.f]
  exact markInt64S_l0 x.length 0 x c (by omega) hx h0 (by omega)
theorem heldInt64S_l0 (y : List Int) (c0 : Int) (h0 : 0 ≤ c0) (h1 : c0 + y.length ≤ 8000000000000000000) (hy : ∀ j, j < y.length → rd y (j : Int) = c0 + j) : ∀ (d i : Nat), i + d = y.length →
    Ev (fun k => laws_heldInt64S.l0 k y (c0 + i) i) (c0 + y.length) := by
  intro d
  induction d with
  | zero =>
    intro i hi
    refine Ev.succ ?_
    simp only [laws_heldInt64S.l0]
    refine Ev.neg (by omega) (Ev.const ?_)
    congr 1
    omega
  | succ d ih =>
    intro i hi
    refine Ev.succ ?_
    simp only [laws_heldInt64S.l0]
    refine Ev.pos (by omega) (Ev.pos (by omega) (Ev.pos (hy i (by omega)) ?_))
    rw [w64' (by omega), w64' (by omega)]
    have := ih (i + 1) (by omega)
    rw [show c0 + (i : Int) + 1 = c0 + ((i + 1 : Nat) : Int) by omega, show (i : Int) + 1 = ((i + 1 : Nat) : Int) by omega]
    exact this

theorem heldInt64S_ev (x : List Int) (c : Int) (h0 : 0 ≤ c) (h1 : c + x.length ≤ 8000000000000000000) : Ev (fun k => laws_heldInt64S.f k (marks x 0 c) c) (c + x.length) := by
  simp only [laws_heldInt64S.f]
  have hl := marks_length x 0 c (Nat.zero_le _)
  have h := heldInt64S_l0 (marks x 0 c) c h0 (by omega) (fun j hj => by rw [rd_lt _ _ hj]; simp [marks]) (marks x 0 c).length 0 (by omega)
  rw [hl] at h
  simpa using h
theorem szInt64S_eq (l : List Int) (a : Int) (h0 : 0 ≤ a) (h1 : a ≤ 1048576) (hl : l.length ≤ 9223372036854775807) : laws_szInt64S.f l a = some (if (l.length : Int) ≤ a then a - (l.length : Int) else -1) := by
  unfold laws_szInt64S.f
  rw [w64 (by omega) (by omega)]
  by_cases h : (l.length : Int) ≤ a
  · rw [if_pos h, if_neg (by omega)]
  · rw [if_neg h, if_pos (by omega)]
theorem szAlphabet_eq (n : Int) (l : List Int) (a : Int) (h0 : 0 ≤ a) (h1 : a ≤ 1048576) (hl : l.length ≤ 9223372036854775807) : laws_szAlphabet.f n l a = some (if (l.length : Int) ≤ a then a - (l.length : Int) else -1) := by
  unfold laws_szAlphabet.f
  rw [szInt64S_eq l a h0 h1 hl]
  simp only [Option.bind_some]
  by_cases h : (l.length : Int) ≤ a
  · rw [if_pos h, if_neg (by omega)]
  · rw [if_neg h, if_pos (by omega)]
theorem toAlphabet_ev (n : Int) (l : List Int) (hl : l.length ≤ 17592186044416) : Ev (fun k => laws_toAlphabet.f k n l) (n, l) := by
  simp only [laws_toAlphabet.f]
  exact Ev.bind (toInt64S_ev l hl) (Ev.now _)
theorem eqAlphabet_ev (n : Int) (l : List Int) (hl : l.length ≤ 17592186044416) : Ev (fun k => laws_eqAlphabet.f k n l n l) true := by
  simp only [laws_eqAlphabet.f]
  exact Ev.pos (by simp) (Ev.bind (eqInt64S_ev l hl) (Ev.pos rfl (Ev.now _)))
theorem markAlphabet_ev (n : Int) (l : List Int) (c : Int) (hl : l.length ≤ 17592186044416) (h0 : 0 ≤ c) (h1 : c ≤ 8000000000000000000) : Ev (fun k => laws_markAlphabet.f k n l c) (c + l.length, marks l 0 c) := by
  simp only [laws_markAlphabet.f]
  exact Ev.bind (markInt64S_ev l c hl h0 h1) (Ev.now _)
theorem eqInt64SS_l0 (x : List (List Int)) (hx : x.length ≤ 1000000) (hr : ∀ r ∈ x, r.length ≤ 1000000) : ∀ (d i : Nat), i + d = x.length → Ev (fun k => laws_eqInt64SS.l0 k x x (i : Int)) true := by
  intro d
  induction d with
  | zero =>
    intro i hi
    refine Ev.succ ?_
    simp only [laws_eqInt64SS.l0]
    exact Ev.neg (by omega) (Ev.now _)
  | succ d ih =>
    intro i hi
    refine Ev.succ ?_
    simp only [laws_eqInt64SS.l0]
    have hm : rd_L1 x (i : Int) ∈ x := by
      simp only [rd_L1, Int.toNat_natCast]
      rw [List.getD_eq_getElem?_getD, List.getElem?_eq_getElem (by omega)]
      simp
    refine Ev.pos (by omega) (Ev.pos (by omega) (Ev.pos (by omega) (Ev.bind (eqInt64S_ev _ (by have := hr _ hm; omega)) (Ev.pos rfl ?_))))
    rw [w64' (by omega), show (i : Int) + 1 = ((i + 1 : Nat) : Int) by omega]
    exact ih (i + 1) (by omega)
theorem eqInt64SS_ev (x : List (List Int)) (hx : x.length ≤ 1000000) (hr : ∀ r ∈ x, r.length ≤ 1000000) : Ev (fun k => laws_eqInt64SS.f k x x) true := by
  simp only [laws_eqInt64SS.f]
  exact Ev.pos trivial (eqInt64SS_l0 x hx hr x.length 0 (by omega))
theorem markInt64SS_l0 : ∀ (suf pre : List (List Int)) (c : Int), (pre ++ suf).length ≤ 1000000 → (∀ x ∈ suf, x.length ≤ 1000000) → 0 ≤ c → c + 1000000 * suf.length ≤ 2000000000000 → Ev (fun k => laws_markInt64SS.l0 k (pre ++ suf) c (pre.length : Int)) (c + lenS suf, pre ++ marksS suf c) := by
  intro suf
  induction suf with
  | nil =>
    intro pre c hl hx h0 h1
    refine Ev.succ ?_
    simp only [laws_markInt64SS.l0]
    refine Ev.neg (by simp) ?_
    have e : c + (lenS [] : Int) = c := by simp [lenS]
    rw [e]
    exact Ev.now _
  | cons x suf ih =>
    intro pre c hl hx h0 h1
    have hx0 := hx x (List.mem_cons_self ..)
    simp only [List.length_append, List.length_cons] at hl h1
    refine Ev.succ ?_
    simp only [laws_markInt64SS.l0]
    have g : (pre ++ x :: suf).getD ((pre.length : Int)).toNat ([] : List Int) = x := by rw [Int.toNat_natCast, List.getD_eq_getElem?_getD]; simp
    refine Ev.pos (by simp; omega) (Ev.pos (by omega) ?_)
    rw [g]
    refine Ev.bind (markInt64S_ev x c (by omega) h0 (by omega)) ?_
    simp only []
    rw [w64' (by omega), Int.toNat_natCast, show (pre ++ x :: suf).set pre.length (marks x 0 c) = (pre ++ [marks x 0 c]) ++ suf by simp, show (pre.length : Int) + 1 = (((pre ++ [marks x 0 c]).length : Nat) : Int) by simp]
    have := ih (pre ++ [marks x 0 c]) (c + x.length) (by simp; omega) (fun y hy => hx y (List.mem_cons_of_mem _ hy)) (by omega) (by omega)
    have e : c + (x.length : Int) + (lenS suf : Int) = c + (lenS (x :: suf) : Int) := by simp [lenS]; omega
    have e2 : pre ++ [marks x 0 c] ++ marksS suf (c + x.length) = pre ++ marksS (x :: suf) c := by simp [marksS]
    rw [e, e2] at this
    exact this
theorem markInt64SS_ev (x : List (List Int)) (c : Int) (hx : x.length ≤ 1000000) (hr : ∀ r ∈ x, r.length ≤ 1000000) (h0 : 0 ≤ c) (h1 : c ≤ 1000000000000) : Ev (fun k => laws_markInt64SS.f k x c) (c + lenS x, marksS x c) := by
  simp only [laws_markInt64SS.f]
  exact markInt64SS_l0 x [] c (by simpa using hx) hr h0 (by omega)
end Go.Proofs.YthgapkbkhoeleaaDoor.PAll
