import Derived.Test.YthgapkbkhoeleaaDoorQOrder
set_option linter.unusedVariables false
set_option linter.unusedSimpArgs false
/-! Traces read backwards; prefixes and meets. -/
namespace Go.Proofs.YthgapkbkhoeleaaDoor.Q
open Go.RowKit Go.Proofs.YthgapkbkhoeleaaDoorW.PrintWords
section
variable (f : Nat → Nat → Bool)
theorem Meets.symm {u v p a b : List Nat} (h : Meets f u v p a b) : Meets f v u p b a := ⟨h.2.1, h.1, fun c hc => h.2.2 c ⟨hc.2, hc.1⟩⟩
theorem Meets.TrEq (hs : ∀ a b, f a b = f b a) {u v p a b u' v' : List Nat} (h : Meets f u v p a b) (hu : Q.TrEq f u u') (hv : Q.TrEq f v v') : ∃ a' b', Meets f u' v' p a' b' ∧ Q.TrEq f a a' ∧ Q.TrEq f b b' := by
  obtain ⟨a', a1, a2⟩ := cutP_TrEq_right f hs hu h.1
  obtain ⟨b', b1, b2⟩ := cutP_TrEq_right f hs hv h.2.1
  exact ⟨a', b', ⟨a1, b1, fun c hc => h.2.2 c ⟨by rw [(TrEq.first f hs a2 c).1]; exact hc.1, by rw [(TrEq.first f hs b2 c).1]; exact hc.2⟩⟩, a2, b2⟩
/-- a word that is independent of another one goes past it -/
theorem apart_comm (hs : ∀ a b, f a b = f b a) {n : Nat} (hr : ∀ a, a < n → f a a = true) : ∀ (a b : List Nat), (∀ x ∈ a, x < n) → apartP f a b = true → TrEq f (b ++ a) (a ++ b) := by
  intro a
  induction a with
  | nil => intro b _ _; rw [List.append_nil]; exact TrEq.refl f b
  | cons x a ih =>
    intro b ha h
    have h' := (apartP_iff f (x :: a) b).1 h
    have hx : ∀ y ∈ b, f y x = false := fun y hy => by rw [hs]; exact h' x (by simp) y hy
    have hn : x ∉ b := fun hm => by
      have := hx x hm
      rw [hr x (ha x (by simp))] at this; cases this
    have t1 : TrEq f (b ++ [x]) (x :: b) := TrEq.over f hs hx hn
    have t2 := ih b (fun y hy => ha y (by simp [hy])) ((apartP_iff f a b).2 fun y hy z hz => h' y (by simp [hy]) z hz)
    have e : b ++ x :: a = (b ++ [x]) ++ a := by simp
    rw [e]
    refine TrEq.trans f hs (TrEq.append_right f hs t1 a) ?_
    rw [List.cons_append, List.cons_append]
    exact TrEq.cons f t2
end
end Go.Proofs.YthgapkbkhoeleaaDoor.Q
