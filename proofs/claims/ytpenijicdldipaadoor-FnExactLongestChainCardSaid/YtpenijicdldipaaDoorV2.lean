import Derived.Test.YtpenijicdldipaaDoorPAllx5
import Derived.Test.YtpenijicdldipaaDoorV0
import Derived.Test.YtpenijicdldipaaDoorQBase
import Derived.Test.YtpenijicdldipaaDoorQTrace
set_option linter.unusedVariables false
set_option linter.unusedSimpArgs false
namespace Go.Proofs.YtpenijicdldipaaDoor.PAll
open Go.RowKit Go.Proofs.YtpenijicdldipaaDoorW.PrintWords Go.Proofs.YtpenijicdldipaaDoorW.PrintMore Go.Proofs.YtpenijicdldipaaDoor.Q
theorem toInt64S_l0 (x : List Int) (hx : x.length ≤ 17592186044416) : ∀ (d i : Nat) (acc : List Int), i + d = x.length → acc.length = x.length → (∀ j, j < i → acc[j]? = x[j]?) →
    Ev (fun k => laws_toInt64S.l0 k x acc i) x := by
  intro d
  induction d with
  | zero =>
    intro i acc hi hl hp
    refine Ev.succ ?_
    simp only [laws_toInt64S.l0]
    refine Ev.neg (by omega) (Ev.const ?_)
    congr 1
    apply List.ext_getElem? 
    intro j
    by_cases hj : j < i
    · exact hp j hj
    · rw [List.getElem?_eq_none (by omega), List.getElem?_eq_none (by omega)]
  | succ d ih =>
    intro i acc hi hl hp
    refine Ev.succ ?_
    simp only [laws_toInt64S.l0]
    refine Ev.pos (by omega) (Ev.pos (by omega) (Ev.pos (by omega) ?_))
    rw [w64' (by omega)]
    refine Ev.congr (fun k => ?_) (ih (i + 1) (acc.set i x[i]) (by omega) (by simpa using hl) ?_)
    · rw [rd_lt x i (by omega)]
      simp
    · intro j hj
      by_cases e : j = i
      · subst e
        simp [hl, show j < x.length by omega]
      · rw [List.getElem?_set_ne (by omega)]
        exact hp j (by omega)

theorem toInt64S_ev (x : List Int) (hx : x.length ≤ 17592186044416) : Ev (fun k => laws_toInt64S.f k x) x := by
  simp only [laws_toInt64S.f]
  refine Ev.pos (by omega) (Ev.pos (by omega) ?_)
  exact toInt64S_l0 x hx x.length 0 _ (by omega) (by simp) (by intro j hj; omega)
theorem eqInt64S_l0 (x : List Int) (hx : x.length ≤ 17592186044416) : ∀ (d i : Nat), i + d = x.length → Ev (fun k => laws_eqInt64S.l0 k x x i) true := by
  intro d
  induction d with
  | zero =>
    intro i hi
    refine Ev.succ ?_
    simp only [laws_eqInt64S.l0]
    exact Ev.neg (by omega) (Ev.now _)
  | succ d ih =>
    intro i hi
    refine Ev.succ ?_
    simp only [laws_eqInt64S.l0]
    refine Ev.pos (by omega) (Ev.pos (by omega) (Ev.pos (by omega) (Ev.pos (by simp) ?_)))
    rw [w64' (by omega)]
    exact ih (i + 1) (by omega)

theorem eqInt64S_ev (x : List Int) (hx : x.length ≤ 17592186044416) : Ev (fun k => laws_eqInt64S.f k x x) true := by
  simp only [laws_eqInt64S.f]
  exact Ev.pos (by simp) (eqInt64S_l0 x hx x.length 0 (by omega))
theorem markInt64S_l0 : ∀ (d i : Nat) (x : List Int) (c : Int), i + d = x.length → x.length ≤ 17592186044416 → 0 ≤ c → c + d ≤ 9000000000000000000 →
    Ev (fun k => laws_markInt64S.l0 k x c i) (c + d, marks x i c) := by
  intro d
  induction d with
  | zero =>
    intro i x c hi hx h0 h1
    refine Ev.succ ?_
    simp only [laws_markInt64S.l0]
    refine Ev.neg (by omega) (Ev.const ?_)
    simp [marks, show x.length - i = 0 by omega, List.take_of_length_le (show x.length ≤ i by omega)]
  | succ d ih =>
    intro i x c hi hx h0 h1
    refine Ev.succ ?_
    simp only [laws_markInt64S.l0]
    refine Ev.pos (by omega) (Ev.pos (by omega) ?_)
    rw [w64' (by omega), w64' (by omega)]
    refine Ev.val (ih (i + 1) (x.set i c) (c + 1) (by simpa using (by omega : i + 1 + d = x.length)) (by simpa using hx) (by omega) (by omega)) ?_
    rw [marks_set x i c (by omega)]
    congr 1
    omega

theorem markInt64S_ev (x : List Int) (c : Int) (hx : x.length ≤ 17592186044416) (h0 : 0 ≤ c) (h1 : c ≤ 8000000000000000000) : Ev (fun k => laws_markInt64S.f k x c) (c + x.length, marks x 0 c) := by
  simp only [laws_markInt64S.f]
  exact markInt64S_l0 x.length 0 x c (by omega) hx h0 (by omega)
theorem heldInt64S_l0 (y : List Int) (c0 : Int) (h0 : 0 ≤ c0) (h1 : c0 + y.length ≤ 8000000000000000000) (hy : ∀ j, j < y.length → rd y (j : Int) = c0 + j) : ∀ (d i : Nat), i + d = y.length →
    Ev (fun k => laws_heldInt64S.l0 k y (c0 + i) i) (c0 + y.length) := by
  intro d
  induction d with
  | zero =>
    intro i hi
    refine Ev.succ ?_
    simp only [laws_heldInt64S.l0]
    refine Ev.neg (by omega) (Ev.const ?_)
    congr 1
    omega
  | succ d ih =>
    intro i hi
    refine Ev.succ ?_
    simp only [laws_heldInt64S.l0]
    refine Ev.pos (by omega) (Ev.pos (by omega) (Ev.pos (hy i (by omega)) ?_))
    rw [w64' (by omega), w64' (by omega)]
    have := ih (i + 1) (by omega)
    rw [show c0 + (i : Int) + 1 = c0 + ((i + 1 : Nat) : Int) by omega, show (i : Int) + 1 = ((i + 1 : Nat) : Int) by omega]
    exact this

theorem heldInt64S_ev (x : List Int) (c : Int) (h0 : 0 ≤ c) (h1 : c + x.length ≤ 8000000000000000000) : Ev (fun k => laws_heldInt64S.f k (marks x 0 c) c) (c + x.length) := by
  simp only [laws_heldInt64S.f]
  have hl := marks_length x 0 c (Nat.zero_le _)
  have h := heldInt64S_l0 (marks x 0 c) c h0 (by omega) (fun j hj => by rw [rd_lt _ _ hj]; simp [marks]) (marks x 0 c).length 0 (by omega)
  rw [hl] at h
  simpa using h
theorem szInt64S_eq (l : List Int) (a : Int) (h0 : 0 ≤ a) (h1 : a ≤ 1048576) (hl : l.length ≤ 9223372036854775807) : laws_szInt64S.f l a = some (if (l.length : Int) ≤ a then a - (l.length : Int) else -1) := by
  unfold laws_szInt64S.f
  rw [w64 (by omega) (by omega)]
  by_cases h : (l.length : Int) ≤ a
  · rw [if_pos h, if_neg (by omega)]
  · rw [if_neg h, if_pos (by omega)]
theorem szAlphabet_eq (n : Int) (l : List Int) (a : Int) (h0 : 0 ≤ a) (h1 : a ≤ 1048576) (hl : l.length ≤ 9223372036854775807) : laws_szAlphabet.f n l a = some (if (l.length : Int) ≤ a then a - (l.length : Int) else -1) := by
  unfold laws_szAlphabet.f
  rw [szInt64S_eq l a h0 h1 hl]
  simp only [Option.bind_some]
  by_cases h : (l.length : Int) ≤ a
  · rw [if_pos h, if_neg (by omega)]
  · rw [if_neg h, if_pos (by omega)]
theorem toAlphabet_ev (n : Int) (l : List Int) (hl : l.length ≤ 17592186044416) : Ev (fun k => laws_toAlphabet.f k n l) (n, l) := by
  simp only [laws_toAlphabet.f]
  exact Ev.bind (toInt64S_ev l hl) (Ev.now _)
theorem eqAlphabet_ev (n : Int) (l : List Int) (hl : l.length ≤ 17592186044416) : Ev (fun k => laws_eqAlphabet.f k n l n l) true := by
  simp only [laws_eqAlphabet.f]
  exact Ev.pos (by simp) (Ev.bind (eqInt64S_ev l hl) (Ev.pos rfl (Ev.now _)))
theorem markAlphabet_ev (n : Int) (l : List Int) (c : Int) (hl : l.length ≤ 17592186044416) (h0 : 0 ≤ c) (h1 : c ≤ 8000000000000000000) : Ev (fun k => laws_markAlphabet.f k n l c) (c + l.length, marks l 0 c) := by
  simp only [laws_markAlphabet.f]
  exact Ev.bind (markInt64S_ev l c hl h0 h1) (Ev.now _)
end Go.Proofs.YtpenijicdldipaaDoor.PAll
