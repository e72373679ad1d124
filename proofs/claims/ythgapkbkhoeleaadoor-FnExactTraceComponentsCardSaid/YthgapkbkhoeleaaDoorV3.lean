import Derived.Test.YthgapkbkhoeleaaDoorPAllx2
import Derived.Test.YthgapkbkhoeleaaDoorPAllx3
import Derived.Test.YthgapkbkhoeleaaDoorV0
import Derived.Test.YthgapkbkhoeleaaDoorV1
import Derived.Test.YthgapkbkhoeleaaDoorV2
import Derived.Test.YthgapkbkhoeleaaDoorQBase
set_option linter.unusedVariables false
set_option linter.unusedSimpArgs false
namespace Go.Proofs.YthgapkbkhoeleaaDoor.PAll
open Go.RowKit Go.Proofs.YthgapkbkhoeleaaDoorW.PrintWords Go.Proofs.YthgapkbkhoeleaaDoorW.PrintMore Go.Proofs.YthgapkbkhoeleaaDoor.Q
theorem l03Code_ev (n : Int) (D u v : List Int) : Ev (fun k => spec_l03Code.f k n D u v) (if Alpha n D then (if Word n u ∧ Word n v then 0 else 2) else 1) := by
  simp only [spec_l03Code.f]
  refine Ev.bind (l02Is_ev n D) ?_
  simp only [decide_eq_true_eq]
  refine Ev.ite (fun c => ?_) (fun c => Ev.const (by rw [if_neg c]))
  rw [if_pos c]
  refine Ev.bind (l03Word_ev n c.1 u) ?_
  simp only [decide_eq_true_eq]
  refine Ev.ite (fun c1 => ?_) (fun c1 => Ev.const (by rw [if_neg fun h => c1 h.1]))
  refine Ev.bind (l03Word_ev n c.1 v) ?_
  simp only [decide_eq_true_eq]
  refine Ev.ite (fun c2 => Ev.const (by rw [if_pos ⟨c1, c2⟩])) (fun c2 => Ev.const (by rw [if_neg fun h => c2 h.2]))
theorem codes2 (n : Int) (D l1 l2 : List Int) : (∃ m f u v, Two n D l1 l2 m f u v ∧ Ev (fun k => spec_l03Code.f k n D l1 l2) 0 ∧ Ev (fun k => impl_checkWords.f k n D [l1, l2]) 0) ∨
    ∃ c : Int, c ≠ 0 ∧ (c = 1 ∨ c = 2) ∧ Ev (fun k => spec_l03Code.f k n D l1 l2) c ∧ Ev (fun k => impl_checkWords.f k n D [l1, l2]) c := by
  have hc := l03Code_ev n D l1 l2
  have hk := checkWords_ev n D [l1, l2]
  have e : (∀ x ∈ [l1, l2], Word n x) ↔ (Word n l1 ∧ Word n l2) := by simp
  simp only [e] at hk
  by_cases hA : Alpha n D
  · by_cases hW : Word n l1 ∧ Word n l2
    · rw [if_pos hA, if_pos hW] at hc hk
      have hA2 := hA
      obtain ⟨m, f, rfl, rfl, hm, hs, hr⟩ := hA.form
      obtain ⟨u, rfl, hul, hu⟩ := hW.1.form
      obtain ⟨v, rfl, hvl, hv⟩ := hW.2.form
      exact .inl ⟨m, f, u, v, ⟨rfl, rfl, rfl, rfl, hm, hs, hr, hul, hu, hvl, hv, hA2⟩, hc, hk⟩
    · rw [if_pos hA, if_neg hW] at hc hk
      exact .inr ⟨2, by decide, .inr rfl, hc, hk⟩
  · rw [if_neg hA] at hc hk
    exact .inr ⟨1, by decide, .inl rfl, hc, hk⟩
end Go.Proofs.YthgapkbkhoeleaaDoor.PAll
