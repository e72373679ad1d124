import Derived.Test.YtemdfjdmokbcoaaDoorQOrder
set_option linter.unusedVariables false
set_option linter.unusedSimpArgs false
/-! The connected parts of a set of letters. -/
namespace Go.Proofs.YtemdfjdmokbcoaaDoor.Q
open Go.RowKit Go.Proofs.YtemdfjdmokbcoaaDoorW.PrintWords
/-- how many i < n have p i -/
def cntN : Nat → (Nat → Bool) → Nat
  | 0, _ => 0
  | n + 1, p => cntN n p + if p n = true then 1 else 0
theorem cntN_le (p : Nat → Bool) : ∀ n, cntN n p ≤ n := by
  intro n
  induction n with
  | zero => exact Nat.le_refl 0
  | succ n ih => simp only [cntN]; split <;> omega
theorem cntN_mono {p q : Nat → Bool} : ∀ n, (∀ b, b < n → p b = true → q b = true) → cntN n p ≤ cntN n q := by
  intro n
  induction n with
  | zero => intro _; exact Nat.le_refl 0
  | succ n ih =>
    intro h
    have h1 := ih (fun b hb => h b (by omega))
    simp only [cntN]
    by_cases e : p n = true
    · rw [if_pos e, if_pos (h n (by omega) e)]; omega
    · rw [if_neg e]; split <;> omega
theorem cntN_strict {p q : Nat → Bool} {x : Nat} (hp : p x = false) (hq : q x = true) : ∀ n, x < n → (∀ b, b < n → p b = true → q b = true) → cntN n p < cntN n q := by
  intro n
  induction n with
  | zero => intro h; omega
  | succ n ih =>
    intro hx h
    simp only [cntN]
    by_cases e : x = n
    · subst e
      have h1 := cntN_mono x (fun b hb => h b (by omega))
      rw [if_neg (by rw [hp]; decide), if_pos hq]
      omega
    · have h1 := ih (by omega) (fun b hb => h b (by omega))
      by_cases e : p n = true
      · rw [if_pos e, if_pos (h n (by omega) e)]; omega
      · rw [if_neg e]; split <;> omega
theorem cntN_pos {p : Nat → Bool} {x : Nat} (hp : p x = true) : ∀ n, x < n → 1 ≤ cntN n p := by
  intro n h
  have := cntN_strict (p := fun _ => false) (q := p) (x := x) rfl hp n h (fun b _ hb => by cases hb)
  omega
section
variable (n : Nat) (f : Nat → Nat → Bool)
/-- the letters on which one of a set depends -/
def reachP (p : Nat → Bool) (b : Nat) : Bool := (List.range n).any fun c => p c && f c b
theorem reachP_iff (p : Nat → Bool) (b : Nat) : reachP n f p b = true ↔ ∃ c, c < n ∧ p c = true ∧ f c b = true := by
  simp [reachP, List.any_eq_true, and_assoc]
def growP (left p : Nat → Bool) (b : Nat) : Bool := reachP n f p b && (left b || p b)
def partN (left : Nat → Bool) (a : Nat) : Nat → Nat → Bool
  | 0 => fun b => decide (b = a)
  | m + 1 => growP n f left (partN left a m)
theorem growP_congr {left p q : Nat → Bool} (h : ∀ b, b < n → p b = q b) (b : Nat) (hb : b < n) : growP n f left p b = growP n f left q b := by
  have e : reachP n f p b = reachP n f q b := by
    rw [Bool.eq_iff_iff, reachP_iff, reachP_iff]
    exact ⟨fun ⟨c, h1, h2, h3⟩ => ⟨c, h1, by rw [← h c h1]; exact h2, h3⟩, fun ⟨c, h1, h2, h3⟩ => ⟨c, h1, by rw [h c h1]; exact h2, h3⟩⟩
  unfold growP
  rw [e, h b hb]
theorem growP_ge (hr : ∀ a, a < n → f a a = true) {left p : Nat → Bool} {b : Nat} (hb : b < n) (hp : p b = true) : growP n f left p b = true := by
  unfold growP
  rw [(reachP_iff n f p b).2 ⟨b, hb, hp, hr b hb⟩, hp]
  simp
theorem partN_stable (hr : ∀ a, a < n → f a a = true) (left : Nat → Bool) {a : Nat} (ha : a < n) : ∀ m, (∀ b, b < n → partN n f left a (m + 1) b = partN n f left a m b) ∨ m + 1 ≤ cntN n (partN n f left a m) := by
  have next : ∀ m, (∀ b, b < n → partN n f left a (m + 1) b = partN n f left a m b) → ∀ b, b < n → partN n f left a (m + 1 + 1) b = partN n f left a (m + 1) b := fun m h b hb => growP_congr n f h b hb
  intro m
  induction m with
  | zero => exact .inr (cntN_pos (x := a) (by simp [partN]) n ha)
  | succ m ih =>
    rcases ih with h | h
    · exact .inl (next m h)
    · by_cases e : ∀ b, b < n → partN n f left a (m + 1) b = partN n f left a m b
      · exact .inl (next m e)
      · refine .inr ?_
        have : ∃ b, b < n ∧ partN n f left a (m + 1) b ≠ partN n f left a m b := Classical.byContradiction fun hn => e fun b hb => Classical.byContradiction fun hne => hn ⟨b, hb, hne⟩
        obtain ⟨b, hb, hne⟩ := this
        have hmono : ∀ b, b < n → partN n f left a m b = true → partN n f left a (m + 1) b = true := fun b hb hp => growP_ge n f hr hb hp
        have hp : partN n f left a m b = false := by
          cases hh : partN n f left a m b with
          | false => rfl
          | true => rw [hmono b hb hh, hh] at hne; exact absurd rfl hne
        have hq : partN n f left a (m + 1) b = true := by
          cases hh : partN n f left a (m + 1) b with
          | true => rfl
          | false => rw [hp, hh] at hne; exact absurd rfl hne
        have := cntN_strict hp hq n hb hmono
        omega
theorem partN_closed (hr : ∀ a, a < n → f a a = true) (left : Nat → Bool) {a : Nat} (ha : a < n) (b : Nat) (hb : b < n) : growP n f left (partN n f left a n) b = partN n f left a n b := by
  rcases partN_stable n f hr left ha n with h | h
  · exact h b hb
  · have := cntN_le (partN n f left a n) n
    omega
/-- which letters of L depend on each other -/
def tieP (L : Nat → Bool) (a b : Nat) : Bool := f a b && (L a && L b)
theorem tieP_iff (L : Nat → Bool) (a b : Nat) : tieP f L a b = true ↔ f a b = true ∧ L a = true ∧ L b = true := by simp [tieP]
/-- the part in which a letter lies -/
def compP (L : Nat → Bool) : Nat → Nat → Bool := clos n (tieP f L)
theorem compP_in {L : Nat → Bool} {a b : Nat} (h : compP n f L a b = true) (ha : L a = true) : L b = true :=
  clos_sound (R := fun i k => L i = true → L k = true) (fun _ h => h) (fun i k h _ => ((tieP_iff f L i k).1 h).2.2) (fun _ _ _ h1 h2 h => h2 (h1 h)) h ha
theorem compP_out {L : Nat → Bool} {a b : Nat} (h : compP n f L a b = true) (hb : L b = true) : L a = true :=
  clos_sound (R := fun i k => L k = true → L i = true) (fun _ h => h) (fun i k h _ => ((tieP_iff f L i k).1 h).2.1) (fun _ _ _ h1 h2 h => h1 (h2 h)) h hb
theorem compP_alone {L : Nat → Bool} {a b : Nat} (h : compP n f L a b = true) (ha : L a = false) : a = b :=
  clos_sound (R := fun i k => i = k ∨ L i = true) (fun _ => .inl rfl) (fun i k h => .inr ((tieP_iff f L i k).1 h).2.1) (fun i j k h1 h2 => by
    rcases h1 with rfl | h1
    · exact h2
    · exact .inr h1) h |>.resolve_right (by rw [ha]; decide)
theorem compP_symm (hs : ∀ a b, f a b = f b a) {L : Nat → Bool} (hL : ∀ b, L b = true → b < n) {a b : Nat} (h : compP n f L a b = true) : compP n f L b a = true := by
  have := clos_sound (f := tieP f L) (R := fun i k => i = k ∨ (i < n ∧ k < n ∧ compP n f L k i = true)) (fun _ => .inl rfl) (fun i k h => by
    obtain ⟨h1, h2, h3⟩ := (tieP_iff f L i k).1 h
    exact .inr ⟨hL i h2, hL k h3, clos_edge ((tieP_iff f L k i).2 ⟨by rw [hs]; exact h1, h3, h2⟩)⟩) (fun i j k h1 h2 => by
    rcases h1 with rfl | ⟨a1, a2, a3⟩
    · exact h2
    · rcases h2 with rfl | ⟨b1, b2, b3⟩
      · exact .inr ⟨a1, a2, a3⟩
      · exact .inr ⟨a1, b2, clos_trans a2 b3 a3⟩) h
  rcases this with rfl | ⟨_, _, h⟩
  · exact clos_refl n a
  · exact h
theorem partN_comp (hr : ∀ a, a < n → f a a = true) {L left : Nat → Bool} (hL : ∀ b, L b = true → b < n) {a : Nat} (ha : L a = true) (hl : ∀ b, left b = true → L b = true) (hc : ∀ b, compP n f L a b = true → left b = true) :
    ∀ b, b < n → partN n f left a n b = compP n f L a b := by
  have sub : ∀ m b, b < n → partN n f left a m b = true → compP n f L a b = true := by
    intro m
    induction m with
    | zero => intro b _ h; simp only [partN, decide_eq_true_eq] at h; subst h; exact clos_refl n b
    | succ m ih =>
      intro b hb h
      have h' : growP n f left (partN n f left a m) b = true := h
      unfold growP at h'
      obtain ⟨h1, h2⟩ := Bool.and_eq_true_iff.1 h'
      obtain ⟨c, c1, c2, c3⟩ := (reachP_iff n f _ b).1 h1
      rcases Bool.or_eq_true_iff.1 h2 with h3 | h3
      · have k := ih c c1 c2
        exact clos_trans c1 k (clos_edge ((tieP_iff f L c b).2 ⟨c3, compP_in n f k ha, hl b h3⟩))
      · exact ih b hb h3
  have mono : ∀ m, partN n f left a m a = true := by
    intro m
    induction m with
    | zero => simp [partN]
    | succ m ih => exact growP_ge n f hr (hL a ha) ih
  intro b hb
  rw [Bool.eq_iff_iff]
  refine ⟨sub n b hb, fun h => ?_⟩
  have := clos_sound (f := tieP f L) (R := fun i k => (partN n f left a n i = true ∧ i < n) → (partN n f left a n k = true ∧ k < n)) (fun _ h => h) (fun i k h hi => by
    obtain ⟨h1, h2, h3⟩ := (tieP_iff f L i k).1 h
    have hk := hL k h3
    have ck : compP n f L a k = true := clos_trans hi.2 (sub n i hi.2 hi.1) (clos_edge h)
    refine ⟨?_, hk⟩
    rw [← partN_closed n f hr left (hL a ha) k hk]
    unfold growP
    rw [(reachP_iff n f _ k).2 ⟨i, hi.2, hi.1, h1⟩, hc k ck]
    rfl) (fun i j k h1 h2 hi => h2 (h1 hi)) h
  exact (this ⟨mono n, hL a ha⟩).1
/-- the least letters of the parts -/
def headP (L : Nat → Bool) (a : Nat) : Bool := L a && !(List.range a).any fun c => L c && compP n f L c a
/-- what lies in no part of a letter below a -/
def leftP (L : Nat → Bool) (a b : Nat) : Bool := L b && !(List.range a).any fun c => L c && compP n f L c b
theorem leftP_iff (L : Nat → Bool) (a b : Nat) : leftP n f L a b = true ↔ L b = true ∧ ∀ c, c < a → L c = true → compP n f L c b = false := by
  simp only [leftP, Bool.and_eq_true, Bool.not_eq_true', List.any_eq_false, List.mem_range, and_congr_right_iff]
  intro _
  constructor
  · intro h c hc hl
    have := h c hc
    simpa [hl] using this
  · intro h c hc
    by_cases hl : L c = true
    · simp [hl, h c hc hl]
    · simp [hl]
theorem headP_left (L : Nat → Bool) (a : Nat) : headP n f L a = leftP n f L a a := rfl
theorem leftP_zero (L : Nat → Bool) (b : Nat) : leftP n f L 0 b = L b := by simp [leftP]
theorem leftP_head {L : Nat → Bool} {a : Nat} (h : headP n f L a = true) (b : Nat) : leftP n f L (a + 1) b = (leftP n f L a b && !compP n f L a b) := by
  have ha : L a = true := ((leftP_iff n f L a a).1 h).1
  rw [Bool.eq_iff_iff, Bool.and_eq_true, leftP_iff, leftP_iff, Bool.not_eq_true']
  constructor
  · exact fun ⟨h1, h2⟩ => ⟨⟨h1, fun c hc hl => h2 c (by omega) hl⟩, h2 a (by omega) ha⟩
  · rintro ⟨⟨h1, h2⟩, h3⟩
    refine ⟨h1, fun c hc hl => ?_⟩
    by_cases e : c = a
    · subst e; exact h3
    · exact h2 c (by omega) hl
theorem leftP_no {L : Nat → Bool} (hL : ∀ b, L b = true → b < n) {a : Nat} (h : headP n f L a = false) (b : Nat) : leftP n f L (a + 1) b = leftP n f L a b := by
  rw [Bool.eq_iff_iff, leftP_iff, leftP_iff]
  constructor
  · exact fun ⟨h1, h2⟩ => ⟨h1, fun c hc hl => h2 c (by omega) hl⟩
  · rintro ⟨h1, h2⟩
    refine ⟨h1, fun c hc hl => ?_⟩
    by_cases e : c = a
    · subst e
      cases k : compP n f L c b with
      | false => rfl
      | true =>
        -- c is in the part of a letter below it
        have : ¬ (leftP n f L c c = true) := by rw [← headP_left, h]; decide
        have hex : ∃ d, d < c ∧ L d = true ∧ compP n f L d c = true := Classical.byContradiction fun hn => this ((leftP_iff n f L c c).2 ⟨hl, fun d hd hld => by
          cases kk : compP n f L d c with
          | false => rfl
          | true => exact absurd ⟨d, hd, hld, kk⟩ hn⟩)
        obtain ⟨d, d1, d2, d3⟩ := hex
        have := h2 d d1 d2
        rw [show compP n f L d b = true from clos_trans (hL c hl) d3 k] at this
        cases this
    · exact h2 c (by omega) hl
theorem left_comp (hs : ∀ a b, f a b = f b a) {L : Nat → Bool} (hL : ∀ b, L b = true → b < n) {a : Nat} (h : headP n f L a = true) : ∀ b, compP n f L a b = true → leftP n f L a b = true := by
  intro b hb
  obtain ⟨h1, h2⟩ := (leftP_iff n f L a a).1 h
  have hlb := compP_in n f hb h1
  refine (leftP_iff n f L a b).2 ⟨hlb, fun c hc hl => ?_⟩
  cases k : compP n f L c b with
  | false => rfl
  | true =>
    have k2 := compP_symm n f hs hL hb
    have := h2 c hc hl
    rw [show compP n f L c a = true from clos_trans (hL b hlb) k k2] at this
    cases this
/-- the parts of a word, each in its normal form -/
def partsW (w : List Nat) : List (List Nat) := ((List.range n).filter (headP n f fun a => decide (a ∈ w))).map fun a => normalP f n (w.filter (compP n f (fun a => decide (a ∈ w)) a))
end
end Go.Proofs.YtemdfjdmokbcoaaDoor.Q
