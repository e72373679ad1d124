/- For every alphabet, word and number, FnExactPowerOf answers true: the program's PowerOf and the reference's come to the same, and leave their arguments alone. No condition. -/
import Derived.Test.YtfnnnopbcdiibaaDoorPAllx2
import Derived.Test.YtfnnnopbcdiibaaDoorPAllx32
import Derived.Test.YtfnnnopbcdiibaaDoorPAllx4
import Derived.Test.YtfnnnopbcdiibaaDoorPAllx9
import Derived.Test.YtfnnnopbcdiibaaDoorV0
import Derived.Test.YtfnnnopbcdiibaaDoorV1
import Derived.Test.YtfnnnopbcdiibaaDoorV12
import Derived.Test.YtfnnnopbcdiibaaDoorV2
import Derived.Test.YtfnnnopbcdiibaaDoorV4
import Derived.Test.YtfnnnopbcdiibaaDoorV5
import Derived.Test.YtfnnnopbcdiibaaDoorV9
import Derived.Test.YtfnnnopbcdiibaaDoorQBase
import Derived.Test.YtfnnnopbcdiibaaDoorQTrace
import Derived.Test.YtfnnnopbcdiibaaDoorStmtFnExactPowerOf
set_option linter.unusedVariables false
set_option linter.unusedSimpArgs false
namespace Go.Proofs.YtfnnnopbcdiibaaDoor.LFnExactPowerOf
open Go.RowKit Go.Proofs.YtfnnnopbcdiibaaDoorW.PrintWords Go.Proofs.YtfnnnopbcdiibaaDoorW.PrintMore Go.Proofs.YtfnnnopbcdiibaaDoor.Q
open Go.Proofs.YtfnnnopbcdiibaaDoor.PAll
theorem both_ev (n : Int) (D l1 : List Int) (m1 : Int) : ∃ r : List Int × Int, r.1.length ≤ 100000 ∧ Ev (fun k => spec_PowerOf.f k n D l1 m1) r ∧ Ev (fun k => impl_PowerOf.f k n D l1 m1) r := by
  have hc := l03Code_ev n D l1 l1
  simp only [and_self] at hc
  have hk := checkWords_ev n D [l1]
  have e : (∀ x ∈ [l1], Word n x) ↔ Word n l1 := by simp
  simp only [e] at hk
  have bad : ∀ c : Int, c ≠ 0 → Ev (fun k => spec_PowerOf.j1 k l1 m1 c n D) ([], c) := fun c h0 => by
    refine Ev.succ ?_
    simp only [spec_PowerOf.j1]
    refine Ev.neg h0 (Ev.succ ?_)
    simp only [spec_PowerOf.j2]
    refine Ev.neg (by simp) (Ev.succ ?_)
    simp only [spec_PowerOf.j3]
    exact Ev.neg h0 (Ev.now _)
  have badc : ∀ c : Int, c ≠ 0 → Ev (fun k => spec_l03Code.f k n D l1 l1) c → Ev (fun k => spec_PowerOf.f k n D l1 m1) ([], c) := fun c h0 h => by
    simp only [spec_PowerOf.f]
    refine Ev.bind h (Ev.neg h0 (Ev.succ ?_))
    simp only [spec_PowerOf.j0]
    exact Ev.neg (by simp) (bad c h0)
  by_cases hA : Alpha n D
  · by_cases hW : Word n l1
    · rw [if_pos hA, if_pos hW] at hc hk
      obtain ⟨m, f, rfl, rfl, hm, hs, hr⟩ := hA.form
      obtain ⟨u, rfl, hul, hu⟩ := hW.form
      clear hA hW e badc
      by_cases c : 0 ≤ m1 ∧ m1 ≤ 24
      · obtain ⟨k, rfl⟩ := Int.eq_ofNat_of_zero_le c.1
        have hk24 : k ≤ 24 := by omega
        have hpl := powP_length u k
        have hpt := powP_lt hu k
        have hmul : k * u.length ≤ 24 * 24 := Nat.mul_le_mul hk24 hul
        have hmi : (u.length : Int) * (k : Int) = ((k * u.length : Nat) : Int) := by rw [Int.natCast_mul, Int.mul_comm]
        refine ⟨if 24 < (powP u k).length then ([], 3) else (ints (normalP f m (powP u k)), 0), ?_, ?_, ?_⟩
        · split
          · simp
          · rw [ints_length, normalP_length f hs hpt]; omega
        · simp only [spec_PowerOf.f, l01In_eq]
          refine Ev.bind hc (Ev.pos rfl (Ev.some_bind (Ev.succ ?_)))
          simp only [spec_PowerOf.j0]
          refine Ev.neg (by rw [decide_eq_true c]; simp) (Ev.succ ?_)
          simp only [spec_PowerOf.j1]
          rw [ints_length, hmi, w64' (by omega)]
          refine Ev.pos trivial (Ev.succ ?_)
          simp only [spec_PowerOf.j2]
          by_cases g : 24 < (powP u k).length
          · rw [if_pos g]
            refine Ev.pos (by rw [decide_eq_true_eq]; omega) (Ev.succ ?_)
            simp only [spec_PowerOf.j3]
            exact Ev.neg (by decide) (Ev.now _)
          · rw [if_neg g]
            refine Ev.neg (by rw [decide_eq_true_eq]; omega) (Ev.succ ?_)
            simp only [spec_PowerOf.j3, spec_l07Power.f]
            have := l07Power_ev u hul k [] hk24 (by simp; omega)
            rw [List.nil_append] at this
            exact Ev.pos trivial (Ev.bind this (Ev.bind (l03Normal_ev m (by omega) f _ (by omega) hpt) (Ev.now _)))
        · simp only [impl_PowerOf.f, impl_Alphabet_ties.f, inRange_eq, slices_Repeat_int64_int64.f]
          refine Ev.bind hk (Ev.pos rfl (Ev.some_bind (Ev.pos (by rw [decide_eq_true c]) (Ev.some_bind ?_))))
          rw [if_pos ⟨c, by simpa using hul⟩, Int.toNat_natCast, ints_powP]
          refine Ev.some_bind (Ev.bind (limited_ev m hm f _ (by omega) hpt) (Ev.now _))
      · refine ⟨([], 2), by simp, ?_, ?_⟩
        · simp only [spec_PowerOf.f, l01In_eq]
          refine Ev.bind hc (Ev.pos rfl (Ev.some_bind (Ev.succ ?_)))
          simp only [spec_PowerOf.j0]
          exact Ev.pos (by rw [decide_eq_false c]; rfl) (bad 2 (by decide))
        · simp only [impl_PowerOf.f, inRange_eq]
          exact Ev.bind hk (Ev.pos rfl (Ev.some_bind (Ev.neg (by rw [decide_eq_false c]; simp) (Ev.now _))))
    · rw [if_pos hA, if_neg hW] at hc hk
      refine ⟨([], 2), by simp, badc 2 (by decide) hc, ?_⟩
      simp only [impl_PowerOf.f]
      exact Ev.bind hk (Ev.neg (by decide) (Ev.now _))
  · rw [if_neg hA] at hc hk
    refine ⟨([], 1), by simp, badc 1 (by decide) hc, ?_⟩
    simp only [impl_PowerOf.f]
    exact Ev.bind hk (Ev.neg (by decide) (Ev.now _))
theorem law_ev (n : Int) (D : List Int) (l1 : List Int) (m1 : Int) (hD : D.length ≤ maxLen) (hl1 : l1.length ≤ maxLen) : Ev (fun k => laws_FnExactPowerOf.f k n D l1 m1) true := by
  unfold maxLen at hD hl1
  simp only [laws_FnExactPowerOf.f]
  refine Ev.ite (fun c => Ev.now _) (fun cl1 => ?_)
  rw [szAlphabet_eq n D 1048576 (by omega) (by omega) hD]
  refine Ev.some_bind (Ev.ite (fun c2 => Ev.now _) (fun c2 => ?_))
  have hD' : D.length ≤ 1048576 := by
    by_cases g : (D.length : Int) ≤ 1048576
    · omega
    · rw [if_neg g] at c2; omega
  have hA := toAlphabet_ev n D (by omega)
  have eA := eqAlphabet_ev n D (by omega)
  have tl1 := toInt64S_ev l1 (by omega)
  have el1 := eqInt64S_ev l1 (by omega)
  obtain ⟨r, hr, hs, hi⟩ := both_ev n D l1 m1
  have er := eqInt64S_ev r.1 (by omega)
  have mA := markAlphabet_ev n D 1 (by omega) (by omega) (by omega)
  have ml1 := markInt64S_ev l1 (1 + (D.length : Int)) (by omega) (by omega) (by omega)
  have mr := markInt64S_ev r.1 1 (by omega) (by omega) (by omega)
  have he := heldInt64S_ev r.1 1 (by omega) (by omega)
  refine Ev.bind hA ?_
  refine Ev.bind tl1 ?_
  refine Ev.bind hs ?_
  refine Ev.bind hA ?_
  refine Ev.bind tl1 ?_
  refine Ev.bind hi ?_
  refine Ev.bind er (Ev.pos rfl (Ev.pos rfl ?_))
  refine Ev.bind hA (Ev.bind eA (Ev.pos rfl ?_))
  refine Ev.bind tl1 (Ev.bind el1 (Ev.pos rfl ?_))
  refine Ev.bind mA ?_
  refine Ev.bind ml1 ?_
  refine Ev.neg (by simp only []; omega) ?_
  refine Ev.bind er (Ev.pos rfl ?_)
  refine Ev.bind mr (Ev.bind he (Ev.neg (by omega) (Ev.pos rfl ?_)))
  refine Ev.bind hA ?_
  refine Ev.bind tl1 ?_
  refine Ev.bind hi (Ev.bind er (Ev.pos rfl (Ev.pos rfl ?_)))
  exact Ev.bind he (Ev.neg (by omega) (Ev.pos rfl (Ev.now _)))
theorem pure : PureStmt := fun n D l1 m1 _ hD _ hl1 _ _ => (law_ev n D l1 m1 hD hl1).elim fun K h => ⟨K, h K (Nat.le_refl K)⟩
end Go.Proofs.YtfnnnopbcdiibaaDoor.LFnExactPowerOf
