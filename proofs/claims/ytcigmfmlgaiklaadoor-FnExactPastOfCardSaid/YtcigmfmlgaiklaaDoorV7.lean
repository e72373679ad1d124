import Derived.Test.YtcigmfmlgaiklaaDoorPAllx9
import Derived.Test.YtcigmfmlgaiklaaDoorV0
import Derived.Test.YtcigmfmlgaiklaaDoorV1
import Derived.Test.YtcigmfmlgaiklaaDoorQBase
import Derived.Test.YtcigmfmlgaiklaaDoorQMask
import Derived.Test.YtcigmfmlgaiklaaDoorQTrace
set_option linter.unusedVariables false
set_option linter.unusedSimpArgs false
namespace Go.Proofs.YtcigmfmlgaiklaaDoor.PAll
open Go.RowKit Go.Proofs.YtcigmfmlgaiklaaDoorW.PrintWords Go.Proofs.YtcigmfmlgaiklaaDoorW.PrintMore Go.Proofs.YtcigmfmlgaiklaaDoor.Q
theorem l01Below_ev (n : Nat) (hn : n ≤ 24) (f : Nat → Nat → Bool) (x : Nat) (hx : x < n) : Ev (fun k => spec_l01Below.f k (mat n f) (x : Int)) ((mk n (fun a => f a x) : Nat) : Int) := by
  have h24 := pow_lt62 hn
  have loop : ∀ (d i : Nat), i + d = n → Ev (fun k => spec_l01Below.l0 k (mat n f) (x : Int) ((mk n (fun a => decide (a < i) && f a x) : Nat) : Int) (i : Int)) ((mk n (fun a => f a x) : Nat) : Int) := by
    intro d
    induction d with
    | zero =>
      intro i hi
      refine Ev.succ ?_
      simp only [spec_l01Below.l0]
      refine Ev.neg (by simp; omega) (Ev.const ?_)
      rw [mk_congr (q := fun a => f a x) fun a ha => by simp [show a < i by omega]]
    | succ d ih =>
      intro i hi
      have i1 := ih (i + 1) (by omega)
      have h1 := mk_lt n (f i)
      have h2 := mk_lt n (fun a => decide (a < i) && f a x)
      have h3 : (2 : Nat) ^ i ≤ 2 ^ 24 := pow24 (by omega)
      refine Ev.succ ?_
      simp only [spec_l01Below.l0]
      refine Ev.pos (by simp; omega) (Ev.pos (by omega) ?_)
      rw [rd_mat n f i (by omega), l01Bit_eq _ x (mk62 (by omega) _) (by omega), testBit_mk]
      refine Ev.some_bind (Ev.ite (fun c => ?_) (fun c => ?_))
      · have c' : f i x = true := by simpa [hx] using c
        rw [l01One_eq i (by omega), w64' (by omega)]
        refine Ev.some_bind ?_
        rw [b_or _ _ (mk62 (by omega) _) (two62 (by omega)), mk_or_one n _ i (by omega)]
        rw [mk_congr (q := fun a => decide (a < i + 1) && f a x) fun a ha => by
          by_cases e : a = i
          · subst e; simp [c']
          · by_cases e2 : a < i
            · simp [e, e2, show a < i + 1 by omega]
            · simp [e, e2, show ¬ a < i + 1 by omega]]
        exact i1
      · have c' : f i x = false := by simpa [hx] using c
        rw [w64' (by omega)]
        rw [mk_congr (q := fun a => decide (a < i + 1) && f a x) fun a ha => by
          by_cases e : a = i
          · subst e; simp [c']
          · by_cases e2 : a < i
            · simp [e2, show a < i + 1 by omega]
            · simp [e2, show ¬ a < i + 1 by omega]]
        exact i1
  simp only [spec_l01Below.f]
  have := loop n 0 (by omega)
  have e : mk n (fun a => decide (a < 0) && f a x) = 0 := Nat.eq_of_testBit_eq fun i => by rw [testBit_mk]; simp
  rw [e] at this
  exact this
end Go.Proofs.YtcigmfmlgaiklaaDoor.PAll
