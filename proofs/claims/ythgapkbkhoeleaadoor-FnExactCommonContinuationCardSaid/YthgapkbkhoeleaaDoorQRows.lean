import Derived.Test.YthgapkbkhoeleaaDoorQRow
import Derived.Deep.Matrix
set_option linter.unusedVariables false
set_option linter.unusedSimpArgs false
/-! An argument laid open: a slice of slices of whole numbers, by its reading. -/
namespace Go.Proofs.YthgapkbkhoeleaaDoor.T
open Go.RowKit Go.ChangeShapes Go.WideShapes Go.ChangeAt Go.Deep Go.Proofs.YthgapkbkhoeleaaDoorW.PrintWords
variable {H : Type} {enc : TypeId × Value → H} {P : Program} {W : World}
theorem open_slsl {t e q : TypeId} {k : IntKind} {fuel : Nat} {v : Value} {x : DataW H × List MemPlace} {held : Bool} (ht : P.underlying t = some (.slice e)) (he : P.underlying e = some (.slice q)) (hq : P.underlying q = some (.int k)) (ce : P.cellsOf e = 1) (cq : P.cellsOf q = 1)
    (h : DataW.trod enc P W 0 (fun _ => true) held fuel t [v] = some x) :
    ∃ (A : Option Addr) (cap : Nat) (l : List (List Int)), v = .slice A l.length cap ∧ l.length ≤ maxLen ∧ (∀ r ∈ l, r.length ≤ maxLen ∧ ∀ n ∈ r, (Lit.int k n).wf = true) ∧ l.length ≤ cap ∧ Kd.C (Kd.slice q (Kd.int k)) W A l.length l := by
  rcases open_int_rows ht he hq ce cq h with ⟨hcs, _⟩ | ⟨a, len, cap, A, L, C, Z, hcs, _, hl, hm, _, hr⟩
  · simp only [List.cons.injEq, and_true] at hcs
    subst hcs
    exact ⟨none, 0, [], rfl, by simp, by simp, by simp, Kd.C_nil _ _⟩
  · simp only [List.cons.injEq, and_true] at hcs
    subst hcs
    have each : ∀ r, r < cap → ∃ l : List Int, L r = l.length ∧ ReadsInt W k (A r) l.length l ∧ l.length ≤ maxLen ∧ (∀ x ∈ l, (Lit.int k x).wf = true) ∧ l.length ≤ C r := by
      intro r hrc
      obtain ⟨_, h1, h2, h3, h4, h5, h6⟩ := hr r hrc
      refine ReadsInt.ofRowC (w := W) (k := k) (a := A r) (len := L r) (cap := C r) (zs := Z r) ?_
      cases hA : A r with
      | none =>
        have h0 := h5 hA
        exact .inl ⟨rfl, by omega, h0, List.eq_nil_of_length_eq_zero (by omega)⟩
      | some a' => exact .inr ⟨a', rfl, h1, h2, h3, fun i hi => (h6 a' hA).2 i (by omega), h4⟩
    obtain ⟨y, hy⟩ := choose_lt each
    have hlen : ((List.range len).map y).length = len := by simp
    have hmax : maxLen ≤ 9223372036854775807 := by unfold maxLen; omega
    refine ⟨some a, cap, (List.range len).map y, by rw [hlen], by rw [hlen]; omega, fun r hr' => ?_, by rw [hlen]; exact hl, hlen.trans hlen.symm ▸ ?_⟩
    · obtain ⟨j, hj, rfl⟩ := List.mem_map.1 hr'
      have := List.mem_range.1 hj
      exact ⟨(hy j (by omega)).2.2.1, (hy j (by omega)).2.2.2.1⟩
    · refine ⟨rfl, by rw [hlen]; omega, fun _ => ⟨a, rfl, fun j p hj => ?_⟩⟩
      have hjl : j < len := by
        have := List.getElem?_eq_some_iff.1 hj
        obtain ⟨h1, _⟩ := this
        rw [hlen] at h1
        exact h1
      rw [List.getElem?_map, List.getElem?_range hjl] at hj
      have hp : y j = p := Option.some.inj hj
      subst hp
      obtain ⟨e1, e2, e3, e4, e5⟩ := hy j (by omega)
      refine ⟨[.slice (A j) (y j).length (C j)], rfl, ⟨A j, C j, rfl, e5, Kd.C_of_reads (d := (0 : Int)) (h1 := fun _ => rfl) e2⟩, fun i u hu => ?_⟩
      cases i with
      | zero =>
        have hu' : Value.slice (A j) (y j).length (C j) = u := Option.some.inj hu
        subst hu'
        have := (hr j (by omega)).1
        rw [e1] at this
        show W.cell? (a.add (j * 1 + 0)) = _
        rw [Nat.mul_one, Nat.add_zero]
        exact this
      | succ i => cases hu
end Go.Proofs.YthgapkbkhoeleaaDoor.T
