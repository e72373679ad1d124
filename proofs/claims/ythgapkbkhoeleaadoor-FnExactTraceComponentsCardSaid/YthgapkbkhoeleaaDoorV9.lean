import Derived.Test.YthgapkbkhoeleaaDoorPAllx0
import Derived.Test.YthgapkbkhoeleaaDoorPAllx11
import Derived.Test.YthgapkbkhoeleaaDoorV0
import Derived.Test.YthgapkbkhoeleaaDoorV4
import Derived.Test.YthgapkbkhoeleaaDoorQBase
import Derived.Test.YthgapkbkhoeleaaDoorQMeet
import Derived.Test.YthgapkbkhoeleaaDoorQTrace
set_option linter.unusedVariables false
set_option linter.unusedSimpArgs false
namespace Go.Proofs.YthgapkbkhoeleaaDoor.PAll
open Go.RowKit Go.Proofs.YthgapkbkhoeleaaDoorW.PrintWords Go.Proofs.YthgapkbkhoeleaaDoorW.PrintMore Go.Proofs.YthgapkbkhoeleaaDoor.Q
theorem heldInt64SS_l0 : ∀ (suf : List (List Int)) (pre : List (List Int)) (c : Int), (pre ++ suf).length ≤ 1000000 → (∀ x ∈ suf, x.length ≤ 1000000) → 0 ≤ c → c + 1000000 * suf.length ≤ 2000000000000 → Ev (fun k => laws_heldInt64SS.l0 k (pre ++ marksS suf c) c (pre.length : Int)) (c + lenS suf) := by
  intro suf
  induction suf with
  | nil =>
    intro pre c hl hx h0 h1
    refine Ev.succ ?_
    simp only [laws_heldInt64SS.l0]
    refine Ev.neg (by simp [marksS]) ?_
    have e : c + (lenS [] : Int) = c := by simp [lenS]
    rw [e]
    exact Ev.now _
  | cons x suf ih =>
    intro pre c hl hx h0 h1
    have hx0 := hx x (List.mem_cons_self ..)
    simp only [List.length_append, List.length_cons] at hl h1
    refine Ev.succ ?_
    simp only [laws_heldInt64SS.l0, marksS]
    have g : rd_L1 (pre ++ marks x 0 c :: marksS suf (c + x.length)) (pre.length : Int) = marks x 0 c := by simp only [rd_L1]; rw [Int.toNat_natCast, List.getD_eq_getElem?_getD]; simp
    refine Ev.pos (by simp; omega) (Ev.pos (by omega) ?_)
    rw [g]
    refine Ev.bind (heldInt64S_ev x c h0 (by omega)) (Ev.neg (by omega) ?_)
    rw [w64' (by omega), show pre ++ marks x 0 c :: marksS suf (c + x.length) = (pre ++ [marks x 0 c]) ++ marksS suf (c + x.length) by simp, show (pre.length : Int) + 1 = (((pre ++ [marks x 0 c]).length : Nat) : Int) by simp]
    have := ih (pre ++ [marks x 0 c]) (c + x.length) (by simp; omega) (fun y hy => hx y (List.mem_cons_of_mem _ hy)) (by omega) (by omega)
    have e : c + (x.length : Int) + (lenS suf : Int) = c + (lenS (x :: suf) : Int) := by simp [lenS]; omega
    rw [e] at this
    exact this
theorem heldInt64SS_ev (x : List (List Int)) (c : Int) (hx : x.length ≤ 1000000) (hr : ∀ r ∈ x, r.length ≤ 1000000) (h0 : 0 ≤ c) (h1 : c ≤ 1000000000000) : Ev (fun k => laws_heldInt64SS.f k (marksS x c) c) (c + lenS x) := by
  simp only [laws_heldInt64SS.f]
  exact heldInt64SS_l0 x [] c (by simpa using hx) hr h0 (by omega)
end Go.Proofs.YthgapkbkhoeleaaDoor.PAll
