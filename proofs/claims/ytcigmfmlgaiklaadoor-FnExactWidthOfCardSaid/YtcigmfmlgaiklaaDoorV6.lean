import Derived.Test.YtcigmfmlgaiklaaDoorPAllx1
import Derived.Test.YtcigmfmlgaiklaaDoorPAllx8
import Derived.Test.YtcigmfmlgaiklaaDoorV0
import Derived.Test.YtcigmfmlgaiklaaDoorV1
import Derived.Test.YtcigmfmlgaiklaaDoorQBase
import Derived.Test.YtcigmfmlgaiklaaDoorQMask
import Derived.Test.YtcigmfmlgaiklaaDoorQTrace
set_option linter.unusedVariables false
set_option linter.unusedSimpArgs false
namespace Go.Proofs.YtcigmfmlgaiklaaDoor.PAll
open Go.RowKit Go.Proofs.YtcigmfmlgaiklaaDoorW.PrintWords Go.Proofs.YtcigmfmlgaiklaaDoorW.PrintMore Go.Proofs.YtcigmfmlgaiklaaDoor.Q
theorem concurrent_ev (n : Nat) (hn : n ≤ 24) (g : Nat → Nat → Bool) : Ev (fun k => impl_concurrent.f k (mat n g)) (mat n fun i b => !g b i && !g i b) := by
  have h1 : 0 < 2 ^ n := Nat.two_pow_pos n
  have h2 := pow_lt62 hn
  have loop : ∀ (d i : Nat), i + d = n → Ev (fun k => impl_concurrent.l0 k (mat n g) ((List.range i).map fun a => ((mk n (fun b => !g b a && !g a b) : Nat) : Int)) (mat n fun a b => g b a) (n : Int) (i : Int)) (mat n fun i b => !g b i && !g i b) := by
    intro d
    induction d with
    | zero =>
      intro i hi
      obtain rfl : i = n := by omega
      refine Ev.succ ?_
      simp only [impl_concurrent.l0]
      exact Ev.neg (by omega) (Ev.now _)
    | succ d ih =>
      intro i hi
      have i1 := ih (i + 1) (by omega)
      rw [List.range_succ, List.map_append] at i1
      refine Ev.succ ?_
      simp only [impl_concurrent.l0, impl_length_int64.f]
      refine Ev.pos (by omega) (Ev.pos (by omega) (Ev.pos (by simp; omega) (Ev.some_bind ?_)))
      rw [mat_length, one_eq n (by omega)]
      refine Ev.some_bind (Ev.pos (by omega) (Ev.pos (by simp; omega) ?_))
      rw [rd_mat n _ i (by omega), rd_mat n _ i (by omega), w64' (by omega), show ((2 ^ n : Nat) : Int) - 1 = ((2 ^ n - 1 : Nat) : Int) by omega, mk_full n, b_andNot _ _ (mk62 hn _) (mk62 hn _), mk_without hn, b_andNot _ _ (mk62 hn _) (mk62 hn _), mk_without hn, w64' (by omega)]
      simp only [Bool.true_and]
      exact i1
  simp only [impl_concurrent.f]
  refine Ev.bind (converse_ev n hn g) ?_
  have := loop n 0 (by omega)
  rw [mat_length]
  exact this
end Go.Proofs.YtcigmfmlgaiklaaDoor.PAll
