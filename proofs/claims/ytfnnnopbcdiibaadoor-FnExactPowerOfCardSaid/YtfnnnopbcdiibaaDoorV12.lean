import Derived.Test.YtfnnnopbcdiibaaDoorPAllx1
import Derived.Test.YtfnnnopbcdiibaaDoorPAllx19
import Derived.Test.YtfnnnopbcdiibaaDoorPAllx9
import Derived.Test.YtfnnnopbcdiibaaDoorV0
import Derived.Test.YtfnnnopbcdiibaaDoorV2
import Derived.Test.YtfnnnopbcdiibaaDoorV3
import Derived.Test.YtfnnnopbcdiibaaDoorV6
import Derived.Test.YtfnnnopbcdiibaaDoorQBase
import Derived.Test.YtfnnnopbcdiibaaDoorQMeet
import Derived.Test.YtfnnnopbcdiibaaDoorQOrder
import Derived.Test.YtfnnnopbcdiibaaDoorQRev
import Derived.Test.YtfnnnopbcdiibaaDoorQTrace
set_option linter.unusedVariables false
set_option linter.unusedSimpArgs false
namespace Go.Proofs.YtfnnnopbcdiibaaDoor.PAll
open Go.RowKit Go.Proofs.YtfnnnopbcdiibaaDoorW.PrintWords Go.Proofs.YtfnnnopbcdiibaaDoorW.PrintMore Go.Proofs.YtfnnnopbcdiibaaDoor.Q
/-- a word, some times -/
def powP (u : List Nat) (k : Nat) : List Nat := (List.replicate k u).flatten
theorem powP_succ (u : List Nat) (k : Nat) : powP u (k + 1) = u ++ powP u k := by simp [powP, List.replicate_succ]
theorem powP_length (u : List Nat) (k : Nat) : (powP u k).length = k * u.length := by
  induction k with
  | zero => simp [powP]
  | succ k ih => rw [powP_succ, List.length_append, ih, Nat.succ_mul]; omega
theorem powP_lt {n : Nat} {u : List Nat} (hu : ∀ x ∈ u, x < n) (k : Nat) : ∀ x ∈ powP u k, x < n := by
  induction k with
  | zero => intro x hx; simp [powP] at hx
  | succ k ih => rw [powP_succ]; exact mem_app hu ih
theorem ints_powP (u : List Nat) (k : Nat) : (List.replicate k (ints u)).flatten = ints (powP u k) := by
  induction k with
  | zero => rfl
  | succ k ih => rw [powP_succ, ints_append, List.replicate_succ, List.flatten_cons, ih]
theorem l07Power_ev (u : List Nat) (hl : u.length ≤ 24) : ∀ (k : Nat) (acc : List Nat), k ≤ 24 → acc.length + k * 24 ≤ 1000 → Ev (fun q => spec_l07Power.l0 q (ints u) (k : Int) (ints acc)) (ints (acc ++ powP u k)) := by
  intro k
  induction k with
  | zero =>
    intro acc _ _
    refine Ev.succ ?_
    simp only [spec_l07Power.l0]
    exact Ev.neg (by omega) (Ev.const (by simp [powP]))
  | succ k ih =>
    intro acc hk ha
    have i1 := ih (acc ++ u) (by omega) (by rw [List.length_append]; omega)
    refine Ev.succ ?_
    simp only [spec_l07Power.l0]
    refine Ev.pos (by omega) (Ev.pos (by rw [ints_length, ints_length]; omega) ?_)
    rw [w64' (by omega), show ((k + 1 : Nat) : Int) - 1 = (k : Int) by omega, ← ints_append]
    exact Ev.val i1 (by rw [powP_succ, List.append_assoc])
end Go.Proofs.YtfnnnopbcdiibaaDoor.PAll
