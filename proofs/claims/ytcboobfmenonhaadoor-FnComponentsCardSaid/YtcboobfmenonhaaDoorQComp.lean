import Derived.Test.YtcboobfmenonhaaDoorQParts
import Derived.Test.YtcboobfmenonhaaDoorQMeet
set_option linter.unusedVariables false
set_option linter.unusedSimpArgs false
/-! A word is the product of its parts, in any order of them. -/
namespace Go.Proofs.YtcboobfmenonhaaDoor.Q
open Go.RowKit Go.Proofs.YtcboobfmenonhaaDoorW.PrintWords
theorem split_TrEq {f : Nat → Nat → Bool} (hs : ∀ a b, f a b = f b a) (P : Nat → Bool) : ∀ w : List Nat, (∀ b ∈ w, ∀ c ∈ w, P b = true → P c = false → f b c = false) → TrEq f (w.filter P ++ w.filter fun b => !P b) w := by
  intro w
  induction w with
  | nil => intro _; exact TrEq.refl f []
  | cons x w ih =>
    intro h
    have ih' := ih (fun b hb c hc => h b (List.mem_cons_of_mem _ hb) c (List.mem_cons_of_mem _ hc))
    by_cases hx : P x = true
    · rw [List.filter_cons_of_pos hx, List.filter_cons_of_neg (by simp [hx])]
      exact TrEq.cons f ih'
    · have hx' : P x = false := by simpa using hx
      rw [List.filter_cons_of_neg hx, List.filter_cons_of_pos (by simp [hx'])]
      have hov : TrEq f (w.filter P ++ [x]) (x :: w.filter P) := TrEq.over f hs (fun b hb => by
        obtain ⟨h1, h2⟩ := List.mem_filter.1 hb
        exact h b (List.mem_cons_of_mem _ h1) x (List.mem_cons_self ..) h2 hx') (fun hm => by
        have := (List.mem_filter.1 hm).2
        rw [hx'] at this
        exact absurd this (by simp))
      have h1 : TrEq f (w.filter P ++ x :: w.filter fun b => !P b) ((x :: w.filter P) ++ w.filter fun b => !P b) := by
        have := TrEq.append_right f hs hov (w.filter fun b => !P b)
        rw [List.append_assoc] at this
        exact this
      exact TrEq.trans f hs h1 (TrEq.cons f ih')
section
variable {n : Nat} {f : Nat → Nat → Bool}
/-- letters of different parts do not depend on each other -/
theorem comp_apart (hs : ∀ a b, f a b = f b a) {L : Nat → Bool} (hL : ∀ b, L b = true → b < n) {a b c : Nat} (ha : L a = true) (hb : compP n f L a b = true) (hc : compP n f L a c = false) (hcL : L c = true) : f b c = false := by
  cases e : f b c with
  | false => rfl
  | true =>
    have hbL := compP_in n f hb ha
    have : compP n f L a c = true := clos_trans (hL b hbL) hb (clos_edge ((tieP_iff f L b c).2 ⟨e, hbL, hcL⟩))
    rw [this] at hc
    exact absurd hc (by simp)
/-- what lies in the parts from a on -/
theorem parts_TrEq (hs : ∀ a b, f a b = f b a) {w : List Nat} (hw : ∀ x ∈ w, x < n) (g : List Nat → List Nat) (hg : ∀ v, (∀ x ∈ v, x < n) → TrEq f (g v) v) : ∀ (d a : Nat), a + d = n →
    TrEq f ((((List.range n).filter fun h => headP n f (fun b => decide (b ∈ w)) h && decide (a ≤ h)).reverse.map fun h => g (w.filter (compP n f (fun b => decide (b ∈ w)) h))).flatten) (w.filter (leftP n f (fun b => decide (b ∈ w)) a)) := by
  have hL : ∀ b, (fun b => decide (b ∈ w)) b = true → b < n := fun b h => hw b (of_decide_eq_true h)
  intro d
  induction d with
  | zero =>
    intro a h
    obtain rfl : a = n := by omega
    have e1 : ((List.range a).filter fun h => headP a f (fun b => decide (b ∈ w)) h && decide (a ≤ h)) = [] := List.filter_eq_nil_iff.2 fun x hx => by
      have := List.mem_range.1 hx
      simp only [Bool.and_eq_true, decide_eq_true_eq, not_and]
      omega
    have e2 : w.filter (leftP a f (fun b => decide (b ∈ w)) a) = [] := List.filter_eq_nil_iff.2 fun x hx hl => by
      have h1 := (leftP_iff a f (fun b => decide (b ∈ w)) a x).1 hl
      have h2 := h1.2 x (hw x hx) h1.1
      rw [show compP a f (fun b => decide (b ∈ w)) x x = true from clos_refl a x] at h2
      exact absurd h2 (by simp)
    rw [e1, e2]
    exact TrEq.refl f []
  | succ d ih =>
    intro a h
    have ih' := ih (a + 1) (by omega)
    have han : a < n := by omega
    by_cases hh : headP n f (fun b => decide (b ∈ w)) a = true
    · have ha : (fun b => decide (b ∈ w)) a = true := ((leftP_iff n f (fun b => decide (b ∈ w)) a a).1 hh).1
      have e1 : ((List.range n).filter fun h => headP n f (fun b => decide (b ∈ w)) h && decide (a ≤ h)) = a :: (List.range n).filter fun h => headP n f (fun b => decide (b ∈ w)) h && decide (a + 1 ≤ h) := by
        rw [filter_first n a han _ (by simp [hh]) (fun i hi => by simp; intro _; omega)]
        congr 1
        refine List.filter_congr fun x hx => ?_
        rw [Bool.eq_iff_iff]
        simp only [Bool.and_eq_true, decide_eq_true_eq]
        constructor
        · rintro ⟨⟨h1, h2⟩, h3⟩
          exact ⟨h1, by omega⟩
        · rintro ⟨h1, h2⟩
          exact ⟨⟨h1, by omega⟩, by omega⟩
      rw [e1, List.reverse_cons, List.map_append, List.flatten_append]
      simp only [List.map_cons, List.map_nil, List.flatten_cons, List.flatten_nil, List.append_nil]
      have hsub : ∀ b, leftP n f (fun b => decide (b ∈ w)) (a + 1) b = (leftP n f (fun b => decide (b ∈ w)) a b && !compP n f (fun b => decide (b ∈ w)) a b) := leftP_head n f hh
      have hcomp : ∀ b, compP n f (fun b => decide (b ∈ w)) a b = true → leftP n f (fun b => decide (b ∈ w)) a b = true := left_comp n f hs hL hh
      have hsp := split_TrEq hs (leftP n f (fun b => decide (b ∈ w)) (a + 1)) (w.filter (leftP n f (fun b => decide (b ∈ w)) a)) (fun b hb c hc h1 h2 => by
        obtain ⟨hbw, hb1⟩ := List.mem_filter.1 hb
        obtain ⟨hcw, hc1⟩ := List.mem_filter.1 hc
        rw [hsub, hb1, Bool.true_and] at h1
        rw [hsub, hc1, Bool.true_and] at h2
        have h1' : compP n f (fun b => decide (b ∈ w)) a b = false := by simpa using h1
        have h2' : compP n f (fun b => decide (b ∈ w)) a c = true := by simpa using h2
        rw [hs]
        exact comp_apart hs hL ha h2' h1' (decide_eq_true hbw))
      rw [List.filter_filter, List.filter_filter] at hsp
      have f1 : (w.filter fun b => leftP n f (fun b => decide (b ∈ w)) (a + 1) b && leftP n f (fun b => decide (b ∈ w)) a b) = w.filter (leftP n f (fun b => decide (b ∈ w)) (a + 1)) := List.filter_congr fun b hb => by
        rw [hsub]
        cases leftP n f (fun b => decide (b ∈ w)) a b <;> simp
      have f2 : (w.filter fun b => (!leftP n f (fun b => decide (b ∈ w)) (a + 1) b) && leftP n f (fun b => decide (b ∈ w)) a b) = w.filter (compP n f (fun b => decide (b ∈ w)) a) := List.filter_congr fun b hb => by
        rw [hsub]
        cases e : compP n f (fun b => decide (b ∈ w)) a b with
        | true => rw [hcomp b e]; rfl
        | false => cases leftP n f (fun b => decide (b ∈ w)) a b <;> rfl
      rw [f1, f2] at hsp
      refine TrEq.trans f hs (TrEq.append_right f hs ih' _) (TrEq.trans f hs (TrEq.append_left f _ (hg _ fun x hx => hw x (List.mem_filter.1 hx).1)) hsp)
    · have hh' : headP n f (fun b => decide (b ∈ w)) a = false := by simpa using hh
      have e1 : ((List.range n).filter fun h => headP n f (fun b => decide (b ∈ w)) h && decide (a ≤ h)) = (List.range n).filter fun h => headP n f (fun b => decide (b ∈ w)) h && decide (a + 1 ≤ h) := List.filter_congr fun x hx => by
        rw [Bool.eq_iff_iff]
        simp only [Bool.and_eq_true, decide_eq_true_eq]
        constructor
        · rintro ⟨h1, h2⟩
          refine ⟨h1, ?_⟩
          by_cases e : a = x
          · subst e
            rw [hh'] at h1
            exact absurd h1 (by simp)
          · omega
        · rintro ⟨h1, h2⟩
          exact ⟨h1, by omega⟩
      have e2 : w.filter (leftP n f (fun b => decide (b ∈ w)) a) = w.filter (leftP n f (fun b => decide (b ∈ w)) (a + 1)) := List.filter_congr fun b _ => (leftP_no n f hL hh' b).symm
      rw [e1, e2]
      exact ih'
/-- a part has one part -/
theorem one_part (hs : ∀ a b, f a b = f b a) {w v : List Nat} (hw : ∀ x ∈ w, x < n) {a : Nat} (hh : headP n f (fun b => decide (b ∈ w)) a = true) (hv : ∀ b, b ∈ v ↔ b ∈ w ∧ compP n f (fun b => decide (b ∈ w)) a b = true) : (partsW n f v).length = 1 := by
  have hL : ∀ b, (fun b => decide (b ∈ w)) b = true → b < n := fun b h => hw b (of_decide_eq_true h)
  have hla := (leftP_iff n f (fun b => decide (b ∈ w)) a a).1 hh
  have ha : a ∈ w := of_decide_eq_true hla.1
  have han := hw a ha
  have hav : a ∈ v := (hv a).2 ⟨ha, clos_refl n a⟩
  have hge : ∀ c ∈ v, a ≤ c := fun c hc => by
    by_cases q : c < a
    · have h1 := (hv c).1 hc
      have h2 := hla.2 c q (decide_eq_true h1.1)
      rw [compP_symm n f hs hL h1.2] at h2
      exact absurd h2 (by simp)
    · omega
  have hin : ∀ b, compP n f (fun b => decide (b ∈ w)) a b = true → compP n f (fun b => decide (b ∈ v)) a b = true := fun b hb =>
    ((clos_sound (R := fun i k => compP n f (fun b => decide (b ∈ w)) a i = true → compP n f (fun b => decide (b ∈ v)) i k = true ∧ compP n f (fun b => decide (b ∈ w)) a k = true) (fun i h => ⟨clos_refl n i, h⟩) (fun i k h hi => by
      obtain ⟨h1, h2, h3⟩ := (tieP_iff f (fun b => decide (b ∈ w)) i k).1 h
      have hk : compP n f (fun b => decide (b ∈ w)) a k = true := clos_trans (hL i h2) hi (clos_edge h)
      exact ⟨clos_edge ((tieP_iff f (fun b => decide (b ∈ v)) i k).2 ⟨h1, decide_eq_true ((hv i).2 ⟨of_decide_eq_true h2, hi⟩), decide_eq_true ((hv k).2 ⟨of_decide_eq_true h3, hk⟩)⟩), hk⟩) (fun i j k h1 h2 hi => by
      obtain ⟨g1, g2⟩ := h1 hi
      obtain ⟨g3, g4⟩ := h2 g2
      exact ⟨clos_trans (hL j (compP_in n f g2 hla.1)) g1 g3, g4⟩) hb) (clos_refl n a)).1
  have hp : headP n f (fun b => decide (b ∈ v)) a = true := (leftP_iff n f (fun b => decide (b ∈ v)) a a).2 ⟨decide_eq_true hav, fun c hc hcv => by
    have := hge c (of_decide_eq_true hcv)
    omega⟩
  have hno : ∀ b, b ≠ a → headP n f (fun b => decide (b ∈ v)) b = false := fun b hb => by
    cases e : headP n f (fun b => decide (b ∈ v)) b with
    | false => rfl
    | true =>
      have h1 := (leftP_iff n f (fun b => decide (b ∈ v)) b b).1 e
      have h2 : b ∈ v := of_decide_eq_true h1.1
      have h3 := hge b h2
      have h4 := h1.2 a (by omega) (decide_eq_true hav)
      rw [hin b ((hv b).1 h2).2] at h4
      exact absurd h4 (by simp)
  unfold partsW
  rw [List.length_map, filter_first n a han _ hp (fun i hi => hno i (by omega)), List.length_cons, List.filter_eq_nil_iff.2 (fun x _ => by
    by_cases q : x = a
    · subst q
      simp
    · simp [hno x q])]
  rfl
/-- different parts are apart -/
theorem parts_apart (hs : ∀ a b, f a b = f b a) {w : List Nat} (hw : ∀ x ∈ w, x < n) {a c : Nat} (hac : c < a) (ha : headP n f (fun b => decide (b ∈ w)) a = true) (hc : headP n f (fun b => decide (b ∈ w)) c = true) {u v : List Nat}
    (hu : ∀ b ∈ u, b ∈ w ∧ compP n f (fun b => decide (b ∈ w)) a b = true) (hv : ∀ b ∈ v, b ∈ w ∧ compP n f (fun b => decide (b ∈ w)) c b = true) : apartP f u v = true := by
  have hL : ∀ b, (fun b => decide (b ∈ w)) b = true → b < n := fun b h => hw b (of_decide_eq_true h)
  have hla := (leftP_iff n f (fun b => decide (b ∈ w)) a a).1 ha
  have hlc := (leftP_iff n f (fun b => decide (b ∈ w)) c c).1 hc
  refine (apartP_iff f u v).2 fun x hx y hy => ?_
  obtain ⟨h1, h2⟩ := hu x hx
  obtain ⟨h3, h4⟩ := hv y hy
  have hf : compP n f (fun b => decide (b ∈ w)) a y = false := by
    cases e : compP n f (fun b => decide (b ∈ w)) a y with
    | false => rfl
    | true =>
      have h5 : compP n f (fun b => decide (b ∈ w)) c a = true := clos_trans (hw y h3) h4 (compP_symm n f hs hL e)
      have h6 := hla.2 c hac hlc.1
      rw [h5] at h6
      exact absurd h6 (by simp)
  exact comp_apart hs hL hla.1 h2 hf (decide_eq_true h3)
theorem flat_length : ∀ l : List (List Nat), (∀ x ∈ l, x.length ≤ 24) → l.flatten.length ≤ l.length * 24 := by
  intro l
  induction l with
  | nil => intro _; simp
  | cons x l ih =>
    intro h
    have h1 := h x (List.mem_cons_self ..)
    have h2 := ih (fun y hy => h y (List.mem_cons_of_mem _ hy))
    rw [List.flatten_cons, List.length_append, List.length_cons, Nat.succ_mul]
    omega
end
end Go.Proofs.YtcboobfmenonhaaDoor.Q
