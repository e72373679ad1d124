import Derived.Test.YtemdfjdmokbcoaaDoorQMeet
set_option linter.unusedVariables false
set_option linter.unusedSimpArgs false
/-! Closures of relations; the order of the positions of a word; the greatest beginning with letters of a set. -/
namespace Go.Proofs.YtemdfjdmokbcoaaDoor.Q
open Go.RowKit Go.Proofs.YtemdfjdmokbcoaaDoorW.PrintWords
/-- reachable by way of elements below p -/
def wsh (f : Nat → Nat → Bool) : Nat → Nat → Nat → Bool
  | 0, i, k => decide (i = k) || f i k
  | p + 1, i, k => wsh f p i k || (wsh f p i p && wsh f p p k)
/-- the reflexive and transitive closure of a relation of n elements -/
def clos (n : Nat) (f : Nat → Nat → Bool) (i k : Nat) : Bool := wsh f n i k
section
variable {f : Nat → Nat → Bool}
theorem wsh_mono {p i k : Nat} (h : wsh f p i k = true) : wsh f (p + 1) i k = true := by simp [wsh, h]
theorem wsh_base {i k : Nat} (h : i = k ∨ f i k = true) : ∀ p, wsh f p i k = true := by
  intro p
  induction p with
  | zero => simpa [wsh] using h
  | succ p ih => exact wsh_mono ih
theorem wsh_trans : ∀ p i j k, j < p → wsh f p i j = true → wsh f p j k = true → wsh f p i k = true := by
  intro p
  induction p with
  | zero => intro i j k h; omega
  | succ p ih =>
    intro i j k hj h1 h2
    simp only [wsh, Bool.or_eq_true, Bool.and_eq_true] at h1 h2 ⊢
    by_cases e : j = p
    · subst e
      have a1 : wsh f j i j = true := h1.elim id (·.1)
      have a2 : wsh f j j k = true := h2.elim id (·.2)
      exact .inr ⟨a1, a2⟩
    · have hj' : j < p := by omega
      rcases h1 with h1 | ⟨h1, h1'⟩
      · rcases h2 with h2 | ⟨h2, h2'⟩
        · exact .inl (ih i j k hj' h1 h2)
        · exact .inr ⟨ih i j p hj' h1 h2, h2'⟩
      · rcases h2 with h2 | ⟨h2, h2'⟩
        · exact .inr ⟨h1, ih p j k hj' h1' h2⟩
        · exact .inr ⟨h1, h2'⟩
theorem wsh_sound {R : Nat → Nat → Prop} (hr : ∀ i, R i i) (he : ∀ i k, f i k = true → R i k) (ht : ∀ i j k, R i j → R j k → R i k) : ∀ p i k, wsh f p i k = true → R i k := by
  intro p
  induction p with
  | zero =>
    intro i k h
    simp only [wsh, Bool.or_eq_true, decide_eq_true_eq] at h
    rcases h with rfl | h
    · exact hr i
    · exact he i k h
  | succ p ih =>
    intro i k h
    simp only [wsh, Bool.or_eq_true, Bool.and_eq_true] at h
    rcases h with h | ⟨h1, h2⟩
    · exact ih i k h
    · exact ht i p k (ih i p h1) (ih p k h2)
theorem clos_refl (n i : Nat) : clos n f i i = true := wsh_base (.inl rfl) n
theorem clos_edge {n i k : Nat} (h : f i k = true) : clos n f i k = true := wsh_base (.inr h) n
theorem clos_trans {n i j k : Nat} (hj : j < n) (h1 : clos n f i j = true) (h2 : clos n f j k = true) : clos n f i k = true := wsh_trans n i j k hj h1 h2
theorem clos_sound {R : Nat → Nat → Prop} (hr : ∀ i, R i i) (he : ∀ i k, f i k = true → R i k) (ht : ∀ i j k, R i j → R j k → R i k) {n i k : Nat} (h : clos n f i k = true) : R i k := wsh_sound hr he ht n i k h
theorem clos_le {n : Nat} (hf : ∀ i k, f i k = true → i < k) {i k : Nat} (h : clos n f i k = true) : i ≤ k :=
  clos_sound (R := fun i k => i ≤ k) (fun _ => Nat.le_refl _) (fun i k h => Nat.le_of_lt (hf i k h)) (fun _ _ _ => Nat.le_trans) h
/-- the last step of a way -/
theorem clos_last {n : Nat} (hf : ∀ i k, f i k = true → i < k ∧ k < n) {i k : Nat} : clos n f i k = true ↔ i = k ∨ ∃ j, i ≤ j ∧ j < k ∧ clos n f i j = true ∧ f j k = true := by
  constructor
  · intro h
    have key : i ≤ k ∧ clos n f i k = true ∧ (i = k ∨ ∃ j, i ≤ j ∧ j < k ∧ clos n f i j = true ∧ f j k = true) := by
      refine clos_sound (R := fun i k => i ≤ k ∧ clos n f i k = true ∧ (i = k ∨ ∃ j, i ≤ j ∧ j < k ∧ clos n f i j = true ∧ f j k = true)) (fun i => ⟨Nat.le_refl _, clos_refl n i, .inl rfl⟩) (fun i k h => ⟨Nat.le_of_lt (hf i k h).1, clos_edge h, .inr ⟨i, Nat.le_refl _, (hf i k h).1, clos_refl n i, h⟩⟩) ?_ h
      rintro i j k ⟨a1, a2, a3⟩ ⟨b1, b2, b3⟩
      rcases b3 with rfl | ⟨j', c1, c2, c3, c4⟩
      · exact ⟨a1, a2, a3⟩
      · have hj : j < n := by have := (hf j' k c4).2; omega
        have hj' : j' < n := by have := (hf j' k c4).2; omega
        have d := clos_trans hj a2 c3
        exact ⟨Nat.le_trans a1 b1, clos_trans hj a2 b2, .inr ⟨j', Nat.le_trans a1 c1, c2, d, c4⟩⟩
    exact key.2.2
  · rintro (rfl | ⟨j, h1, h2, h3, h4⟩)
    · exact clos_refl n i
    · exact clos_trans (by have := (hf j k h4).2; omega) h3 (clos_edge h4)
end
/-- the pairs of positions i < k of a word with dependent letters -/
def eP (f : Nat → Nat → Bool) (w : List Nat) (i k : Nat) : Bool := decide (i < k ∧ k < w.length) && f (w.getD i 0) (w.getD k 0)
theorem eP_lt {f : Nat → Nat → Bool} {w : List Nat} {i k : Nat} (h : eP f w i k = true) : i < k ∧ k < w.length := by
  simp only [eP, Bool.and_eq_true, decide_eq_true_eq] at h
  exact h.1
/-- the order of the positions -/
def ordP (f : Nat → Nat → Bool) (w : List Nat) : Nat → Nat → Bool := clos w.length (eP f w)

section
variable (f : Nat → Nat → Bool)
theorem TrEq.append_left {u v : List Nat} (p : List Nat) (h : TrEq f u v) : TrEq f (p ++ u) (p ++ v) := by
  induction p with
  | nil => exact h
  | cons a p ih => exact TrEq.cons f ih
theorem TrEq.append_right (hs : ∀ a b, f a b = f b a) {u v : List Nat} (h : TrEq f u v) (q : List Nat) : TrEq f (u ++ q) (v ++ q) := by
  unfold TrEq
  rw [cutP_append, cutP_TrEq f hs h, cutP_self_append]
  exact TrEq.refl f q
theorem isFirst_end {x : Nat} {v : List Nat} (h : ∀ b ∈ v, f b x = false) : isFirst f (v ++ [x]) x = true := by
  induction v with
  | nil => exact isFirst_head f x []
  | cons b v ih =>
    have h1 := h b (by simp)
    have h2 := ih (fun c hc => h c (by simp [hc]))
    rw [List.cons_append]
    simp only [isFirst, h1, h2]
    simp
/-- a letter that is independent of all of a word may stand ahead of it -/
theorem TrEq.over (hs : ∀ a b, f a b = f b a) {x : Nat} {v : List Nat} (h : ∀ b ∈ v, f b x = false) (hx : x ∉ v) : TrEq f (v ++ [x]) (x :: v) := by
  refine TrEq.symm f hs ((TrEq.cons_iff f).2 ⟨isFirst_end f h, ?_⟩)
  rw [List.erase_append_right _ hx, List.erase_cons_head, List.append_nil]
  exact TrEq.refl f v
/-- p is in front of w, r is left, p's letters are of the set and no first letter of r is -/
def Ins (m : Nat → Bool) (w p r : List Nat) : Prop := cutP f p w = some r ∧ (∀ x ∈ p, m x = true) ∧ ∀ c, isFirst f r c = true → m c = false
theorem Ins.first (hs : ∀ a b, f a b = f b a) {m : Nat → Bool} {w p r : List Nat} (h : Ins f m w p r) {c : Nat} (hw : isFirst f w c = true) (hm : m c = true) : isFirst f p c = true := by
  induction p generalizing w with
  | nil =>
    obtain ⟨h1, h2, h3⟩ := h
    injection h1 with h1
    subst h1
    rw [h3 c hw] at hm; cases hm
  | cons d p ih =>
    obtain ⟨h1, h2, h3⟩ := h
    rw [cutP_cons] at h1
    by_cases g1 : isFirst f w d = true
    · rw [if_pos g1] at h1
      by_cases e : d = c
      · subst e; exact isFirst_head f d p
      · have k1 := first_erase_of f hs (Ne.symm e) hw g1
        have := ih ⟨h1, fun x hx => h2 x (by simp [hx]), h3⟩ k1.1
        simp [isFirst, k1.2, this]
    · rw [if_neg g1] at h1; cases h1
theorem Ins.unique (hs : ∀ a b, f a b = f b a) {m : Nat → Bool} {w p r q r' : List Nat} (h : Ins f m w p r) (k : Ins f m w q r') : TrEq f p q := by
  induction p generalizing w q with
  | nil =>
    obtain ⟨h1, h2, h3⟩ := h
    injection h1 with h1
    subst h1
    cases q with
    | nil => exact TrEq.refl f []
    | cons d q =>
      have g1 := cutP_first f hs k.1 (isFirst_head f d q)
      have := h3 d g1
      rw [k.2.1 d (by simp)] at this; cases this
  | cons c p ih =>
    have g1 := cutP_first f hs h.1 (isFirst_head f c p)
    have g3 := Ins.first f hs k g1 (h.2.1 c (by simp))
    obtain ⟨k1, k2, k3⟩ := k
    obtain ⟨h1, h2, h3⟩ := h
    rw [cutP_cons, if_pos g1] at h1
    rw [cutP_erase f hs g3 g1] at k1
    exact (TrEq.cons_iff f).2 ⟨g3, ih ⟨h1, fun x hx => h2 x (by simp [hx]), h3⟩ ⟨k1, fun x hx => k2 x (List.mem_of_mem_erase hx), k3⟩⟩
end
/-! ### the greatest number of elements that are near each other, two by two -/
def wdN (g : Nat → Nat → Bool) : Nat → Nat → (Nat → Bool) → Nat
  | 0, _, _ => 0
  | d + 1, i, P => if P i = true then max (wdN g d (i + 1) P) (1 + wdN g d (i + 1) fun k => P k && g i k) else wdN g d (i + 1) P
theorem wdN_le (g : Nat → Nat → Bool) : ∀ (d i : Nat) (P : Nat → Bool), wdN g d i P ≤ d := by
  intro d
  induction d with
  | zero => intro i P; exact Nat.le_refl 0
  | succ d ih =>
    intro i P
    have h1 := ih (i + 1) P
    have h2 := ih (i + 1) (fun k => P k && g i k)
    simp only [wdN]
    split <;> omega
theorem wdN_congr {g g' : Nat → Nat → Bool} (n : Nat) (hg : ∀ i k, i < k → k < n → g i k = g' i k) : ∀ (d i : Nat) (P P' : Nat → Bool), i + d = n → (∀ k, i ≤ k → k < n → P k = P' k) → wdN g d i P = wdN g' d i P' := by
  intro d
  induction d with
  | zero => intro i P P' _ _; rfl
  | succ d ih =>
    intro i P P' hi h
    simp only [wdN]
    rw [h i (Nat.le_refl i) (by omega), ih (i + 1) P P' (by omega) (fun k hk hn => h k (by omega) hn), ih (i + 1) (fun k => P k && g i k) (fun k => P' k && g' i k) (by omega) (fun k hk hn => by
      show (P k && g i k) = (P' k && g' i k)
      rw [h k (by omega) hn, hg i k (by omega) hn])]
theorem wdN_skip (g : Nat → Nat → Bool) : ∀ (e d j : Nat) (P : Nat → Bool), (∀ k, j ≤ k → k < j + e → P k = false) → wdN g (e + d) j P = wdN g d (j + e) P := by
  intro e
  induction e with
  | zero => intro d j P _; rw [Nat.zero_add, Nat.add_zero]
  | succ e ih =>
    intro d j P h
    rw [show e + 1 + d = (e + d) + 1 by omega]
    simp only [wdN]
    rw [if_neg (by rw [h j (Nat.le_refl j) (by omega)]; decide), ih d (j + 1) P (fun k h1 h2 => h k (by omega) (by omega)), show j + 1 + e = j + (e + 1) by omega]
theorem wdN_none (g : Nat → Nat → Bool) (n : Nat) (P : Nat → Bool) (h : ∀ k, k < n → P k = false) : wdN g n 0 P = 0 := by
  have := wdN_skip g n 0 0 P (fun k _ hk => h k (by omega))
  rw [Nat.add_zero] at this
  rw [this]; rfl
theorem wdN_least (g : Nat → Nat → Bool) (n i : Nat) (P : Nat → Bool) (hi : i < n) (hP : P i = true) (h0 : ∀ k, k < i → P k = false) :
    wdN g n 0 P = max (wdN g n 0 fun k => P k && decide (k ≠ i)) (1 + wdN g n 0 fun k => (P k && decide (k ≠ i)) && g i k) := by
  obtain ⟨d, rfl⟩ : ∃ d, n = i + (d + 1) := ⟨n - i - 1, by omega⟩
  have e1 := wdN_skip g i (d + 1) 0 P (fun k _ hk => h0 k (by omega))
  have low : ∀ k, k < i + 1 → (P k && decide (k ≠ i)) = false := fun k hk => by
    by_cases e : k = i
    · simp [e]
    · rw [h0 k (by omega)]; rfl
  have e2 := wdN_skip g (i + 1) d 0 (fun k => P k && decide (k ≠ i)) (fun k _ hk => low k (by omega))
  have e3 := wdN_skip g (i + 1) d 0 (fun k => (P k && decide (k ≠ i)) && g i k) (fun k _ hk => by
    show ((P k && decide (k ≠ i)) && g i k) = false
    rw [low k (by omega)]; rfl)
  rw [show i + 1 + d = i + (d + 1) by omega] at e2 e3
  rw [e1, e2, e3, Nat.zero_add, Nat.zero_add]
  simp only [wdN]
  rw [if_pos hP]
  rw [wdN_congr (g := g) (g' := g) (i + (d + 1)) (fun _ _ _ _ => rfl) d (i + 1) P (fun k => P k && decide (k ≠ i)) (by omega) (fun k hk _ => by
      have : k ≠ i := by omega
      simp [this]), wdN_congr (g := g) (g' := g) (i + (d + 1)) (fun _ _ _ _ => rfl) d (i + 1) (fun k => P k && g i k) (fun k => (P k && decide (k ≠ i)) && g i k) (by omega) (fun k hk _ => by
      have : k ≠ i := by omega
      simp [this])]
/-! ### the letters that may not follow -/
def afterP (n : Nat) (f : Nat → Nat → Bool) (M c : Nat) : Nat := mk n fun a => (M.testBit a || decide (a < c)) && !f c a
def openP (M : Nat) (a : Nat) : Bool := !M.testBit a
def fillP (n : Nat) (f : Nat → Nat → Bool) : Nat → Nat → List Nat
  | 0, _ => []
  | k + 1, M => leastF (openP M) n :: fillP n f k (afterP n f M (leastF (openP M) n))
theorem afterP_lt (n : Nat) (f : Nat → Nat → Bool) (M c : Nat) : afterP n f M c < 2 ^ n := mk_lt n _
theorem afterP_open {n : Nat} {f : Nat → Nat → Bool} (hr : ∀ a, a < n → f a a = true) (M : Nat) {c : Nat} (hc : c < n) : ∃ a, a < n ∧ openP (afterP n f M c) a = true :=
  ⟨c, hc, by unfold openP afterP; rw [testBit_mk, hr c hc]; simp⟩
theorem fillP_length (n : Nat) (f : Nat → Nat → Bool) : ∀ (k M : Nat), (fillP n f k M).length = k := by
  intro k
  induction k with
  | zero => intro M; rfl
  | succ k ih => intro M; simp only [fillP, List.length_cons, ih]
end Go.Proofs.YtemdfjdmokbcoaaDoor.Q
