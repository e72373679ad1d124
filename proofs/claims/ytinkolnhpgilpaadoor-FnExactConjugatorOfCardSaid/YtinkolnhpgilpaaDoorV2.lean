import Derived.Test.YtinkolnhpgilpaaDoorPAllx5
import Derived.Test.YtinkolnhpgilpaaDoorPAllx6
import Derived.Test.YtinkolnhpgilpaaDoorV0
import Derived.Test.YtinkolnhpgilpaaDoorQBase
import Derived.Test.YtinkolnhpgilpaaDoorQConj
import Derived.Test.YtinkolnhpgilpaaDoorQTrace
set_option linter.unusedVariables false
set_option linter.unusedSimpArgs false
namespace Go.Proofs.YtinkolnhpgilpaaDoor.PAll
open Go.RowKit Go.Proofs.YtinkolnhpgilpaaDoorW.PrintWords Go.Proofs.YtinkolnhpgilpaaDoorW.PrintMore Go.Proofs.YtinkolnhpgilpaaDoor.Q
theorem markInt64S_l0 : ∀ (d i : Nat) (x : List Int) (c : Int), i + d = x.length → x.length ≤ 17592186044416 → 0 ≤ c → c + d ≤ 9000000000000000000 →
    Ev (fun k => laws_markInt64S.l0 k x c i) (c + d, marks x i c) := by
  intro d
  induction d with
  | zero =>
    intro i x c hi hx h0 h1
    refine Ev.succ ?_
    simp only [laws_markInt64S.l0]
    refine Ev.neg (by omega) (Ev.const ?_)
    simp [marks, show x.length - i = 0 by omega, List.take_of_length_le (show x.length ≤ i by omega)]
  | succ d ih =>
    intro i x c hi hx h0 h1
    refine Ev.succ ?_
    simp only [laws_markInt64S.l0]
    refine Ev.pos (by omega) (Ev.pos (by omega) ?_)
    rw [w64' (by omega), w64' (by omega)]
    refine Ev.val (ih (i + 1) (x.set i c) (c + 1) (by simpa using (by omega : i + 1 + d = x.length)) (by simpa using hx) (by omega) (by omega)) ?_
    rw [marks_set x i c (by omega)]
    congr 1
    omega

theorem markInt64S_ev (x : List Int) (c : Int) (hx : x.length ≤ 17592186044416) (h0 : 0 ≤ c) (h1 : c ≤ 8000000000000000000) : Ev (fun k => laws_markInt64S.f k x c) (c + x.length, marks x 0 c) := by
  simp only [laws_markInt64S.f]
  exact markInt64S_l0 x.length 0 x c (by omega) hx h0 (by omega)
theorem heldInt64S_l0 (y : List Int) (c0 : Int) (h0 : 0 ≤ c0) (h1 : c0 + y.length ≤ 8000000000000000000) (hy : ∀ j, j < y.length → rd y (j : Int) = c0 + j) : ∀ (d i : Nat), i + d = y.length →
    Ev (fun k => laws_heldInt64S.l0 k y (c0 + i) i) (c0 + y.length) := by
  intro d
  induction d with
  | zero =>
    intro i hi
    refine Ev.succ ?_
    simp only [laws_heldInt64S.l0]
    refine Ev.neg (by omega) (Ev.const ?_)
    congr 1
    omega
  | succ d ih =>
    intro i hi
    refine Ev.succ ?_
    simp only [laws_heldInt64S.l0]
    refine Ev.pos (by omega) (Ev.pos (by omega) (Ev.pos (hy i (by omega)) ?_))
    rw [w64' (by omega), w64' (by omega)]
    have := ih (i + 1) (by omega)
    rw [show c0 + (i : Int) + 1 = c0 + ((i + 1 : Nat) : Int) by omega, show (i : Int) + 1 = ((i + 1 : Nat) : Int) by omega]
    exact this

theorem heldInt64S_ev (x : List Int) (c : Int) (h0 : 0 ≤ c) (h1 : c + x.length ≤ 8000000000000000000) : Ev (fun k => laws_heldInt64S.f k (marks x 0 c) c) (c + x.length) := by
  simp only [laws_heldInt64S.f]
  have hl := marks_length x 0 c (Nat.zero_le _)
  have h := heldInt64S_l0 (marks x 0 c) c h0 (by omega) (fun j hj => by rw [rd_lt _ _ hj]; simp [marks]) (marks x 0 c).length 0 (by omega)
  rw [hl] at h
  simpa using h
theorem markAlphabet_ev (n : Int) (l : List Int) (c : Int) (hl : l.length ≤ 17592186044416) (h0 : 0 ≤ c) (h1 : c ≤ 8000000000000000000) : Ev (fun k => laws_markAlphabet.f k n l c) (c + l.length, marks l 0 c) := by
  simp only [laws_markAlphabet.f]
  exact Ev.bind (markInt64S_ev l c hl h0 h1) (Ev.now _)
end Go.Proofs.YtinkolnhpgilpaaDoor.PAll
