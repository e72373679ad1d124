import Derived.Test.YtemdfjdmokbcoaaDoorQPoly
set_option linter.unusedVariables false
set_option linter.unusedSimpArgs false
/-! Alphabets beside each other: the steps of a product, and how many of each size. -/
namespace Go.Proofs.YtemdfjdmokbcoaaDoor.Q
open Go.RowKit Go.Proofs.YtemdfjdmokbcoaaDoorW.PrintWords
theorem pcP_side : ∀ (m A B : Nat), A < 2 ^ m → pcP (2 ^ m * B + A) = pcP B + pcP A := by
  intro m
  induction m with
  | zero => intro A B h; obtain rfl : A = 0 := by simpa using h
            simp [pcP_zero]
  | succ m ih =>
    intro A B h
    rw [Nat.pow_succ] at h
    have e0 : 2 ^ (m + 1) * B + A = 2 * (2 ^ m * B) + A := by rw [Nat.pow_succ, Nat.mul_right_comm, Nat.mul_comm]
    rw [e0, pcP_eq (2 * (2 ^ m * B) + A), pcP_eq A]
    generalize hX : 2 ^ m * B = X
    have e1 : (2 * X + A) % 2 = A % 2 := by omega
    have e2 : (2 * X + A) / 2 = X + A / 2 := by omega
    rw [e1, e2, ← hX, ih (A / 2) B (by omega)]
    omega
/-- two relations beside each other; o: is what lies in two parts related -/
def sideF (m : Nat) (f g : Nat → Nat → Bool) (o : Bool) (a b : Nat) : Bool := if a < m then (if b < m then f a b else o) else (if b < m then o else g (a - m) (b - m))
theorem sideF_symm {m : Nat} {f g : Nat → Nat → Bool} (o : Bool) (hf : ∀ a b, f a b = f b a) (hg : ∀ a b, g a b = g b a) (a b : Nat) : sideF m f g o a b = sideF m f g o b a := by
  unfold sideF
  by_cases h1 : a < m <;> by_cases h2 : b < m <;> simp [h1, h2, hf a b, hg (a - m) (b - m)]
theorem sideF_refl {m n : Nat} {f g : Nat → Nat → Bool} (o : Bool) (hf : ∀ a, a < m → f a a = true) (hg : ∀ a, a < n → g a a = true) (a : Nat) (h : a < m + n) : sideF m f g o a a = true := by
  unfold sideF
  by_cases h1 : a < m
  · simp [h1, hf a h1]
  · simp [h1, hg (a - m) (by omega)]
theorem bit_of {A m : Nat} (h : A < 2 ^ m) (h0 : A ≠ 0) : ∃ a, a < m ∧ A.testBit a = true := by
  obtain ⟨a, ha⟩ := Nat.exists_testBit_of_ne_zero h0
  refine ⟨a, ?_, ha⟩
  by_cases g : a < m
  · exact g
  · rw [Nat.testBit_lt_two_pow (Nat.lt_of_lt_of_le h (Nat.pow_le_pow_right (by decide) (by omega)))] at ha
    cases ha
theorem stepP_side {m n : Nat} {f g : Nat → Nat → Bool} (o : Bool) (hf : ∀ a, a < m → f a a = true) (hg : ∀ a, a < n → g a a = true) {A B : Nat} (hA : A < 2 ^ m) (hB : B < 2 ^ n) :
    stepP (m + n) (sideF m f g o) (2 ^ m * B + A) = (stepP n g B && (stepP m f A && (!o || (decide (A = 0) || decide (B = 0))))) := by
  have tb : ∀ j, (2 ^ m * B + A).testBit j = if j < m then A.testBit j else B.testBit (j - m) := fun j => Nat.testBit_two_pow_mul_add B hA j
  have hr := sideF_refl (m := m) (n := n) o hf hg
  rw [Bool.eq_iff_iff]
  simp only [Bool.and_eq_true, Bool.or_eq_true, Bool.not_eq_true', decide_eq_true_eq]
  rw [stepP_iff (m + n) _ hr, stepP_iff n g hg, stepP_iff m f hf]
  constructor
  · intro h
    refine ⟨fun a b ha hb h1 h2 hne => ?_, fun a b ha hb h1 h2 hne => ?_, ?_⟩
    · have := h (m + a) (m + b) (by omega) (by omega) (by rw [tb, if_neg (by omega), Nat.add_sub_cancel_left]; exact h1) (by rw [tb, if_neg (by omega), Nat.add_sub_cancel_left]; exact h2) (by omega)
      unfold sideF at this
      rw [if_neg (by omega), if_neg (by omega), Nat.add_sub_cancel_left, Nat.add_sub_cancel_left] at this
      exact this
    · have := h a b (by omega) (by omega) (by rw [tb, if_pos ha]; exact h1) (by rw [tb, if_pos hb]; exact h2) hne
      unfold sideF at this
      rw [if_pos ha, if_pos hb] at this
      exact this
    · cases o with
      | false => exact .inl rfl
      | true =>
        right
        by_cases a0 : A = 0
        · exact .inl a0
        · right
          by_cases b0 : B = 0
          · exact b0
          · obtain ⟨a, ha, h1⟩ := bit_of hA a0
            obtain ⟨b, hb, h2⟩ := bit_of hB b0
            have := h a (m + b) (by omega) (by omega) (by rw [tb, if_pos ha]; exact h1) (by rw [tb, if_neg (by omega), Nat.add_sub_cancel_left]; exact h2) (by omega)
            unfold sideF at this
            rw [if_pos ha, if_neg (by omega)] at this
            cases this
  · rintro ⟨h1, h2, h3⟩ a b ha hb t1 t2 hne
    rw [tb] at t1 t2
    unfold sideF
    by_cases g1 : a < m
    · rw [if_pos g1] at t1 ⊢
      by_cases g2 : b < m
      · rw [if_pos g2] at t2 ⊢
        exact h2 a b g1 g2 t1 t2 hne
      · rw [if_neg g2] at t2 ⊢
        rcases h3 with h3 | h3 | h3
        · exact h3
        · subst h3; rw [Nat.zero_testBit] at t1; cases t1
        · subst h3; rw [Nat.zero_testBit] at t2; cases t2
    · rw [if_neg g1] at t1 ⊢
      by_cases g2 : b < m
      · rw [if_pos g2] at t2 ⊢
        rcases h3 with h3 | h3 | h3
        · exact h3
        · subst h3; rw [Nat.zero_testBit] at t2; cases t2
        · subst h3; rw [Nat.zero_testBit] at t1; cases t1
      · rw [if_neg g2] at t2 ⊢
        exact h1 (a - m) (b - m) (by omega) (by omega) t1 t2 (by omega)
theorem range_mul (M : Nat) : ∀ K, List.range (M * K) = (List.range K).flatMap fun B => (List.range M).map fun A => M * B + A := by
  intro K
  induction K with
  | zero => simp
  | succ K ih =>
    rw [Nat.mul_succ, List.range_add, ih, List.range_succ, List.flatMap_append]
    simp
theorem flatMap_filter {α β : Type} (p : α → Bool) (F : α → List β) : ∀ l : List α, (l.filter p).flatMap F = l.flatMap fun x => if p x then F x else [] := by
  intro l
  induction l with
  | nil => rfl
  | cons x l ih =>
    rw [List.flatMap_cons, List.filter_cons]
    by_cases h : p x = true
    · rw [if_pos h, if_pos h, List.flatMap_cons, ih]
    · rw [if_neg h, if_neg h, ih, List.nil_append]
theorem filter_flat {α β : Type} (p : β → Bool) (F : α → List β) : ∀ l : List α, (l.flatMap F).filter p = l.flatMap fun x => (F x).filter p := by
  intro l
  induction l with
  | nil => rfl
  | cons x l ih => rw [List.flatMap_cons, List.flatMap_cons, List.filter_append, ih]
theorem flatMap_congr' {α β : Type} {F G : α → List β} : ∀ {l : List α}, (∀ x ∈ l, F x = G x) → l.flatMap F = l.flatMap G := by
  intro l
  induction l with
  | nil => intro _; rfl
  | cons x l ih =>
    intro h
    rw [List.flatMap_cons, List.flatMap_cons, h x (List.mem_cons_self ..), ih (fun y hy => h y (List.mem_cons_of_mem _ hy))]
theorem map_filter' {α β : Type} (p : β → Bool) (F : α → β) : ∀ l : List α, (l.map F).filter p = (l.filter fun x => p (F x)).map F := by
  intro l
  induction l with
  | nil => rfl
  | cons x l ih =>
    rw [List.map_cons, List.filter_cons, List.filter_cons, ih]
    by_cases h : p (F x) = true
    · rw [if_pos h, if_pos h, List.map_cons]
    · rw [if_neg h, if_neg h]
theorem steps_side {m n : Nat} {f g : Nat → Nat → Bool} (o : Bool) (hf : ∀ a, a < m → f a a = true) (hg : ∀ a, a < n → g a a = true) :
    stepsP (m + n) (sideF m f g o) = (stepsP n g).flatMap fun B => ((stepsP m f).filter fun A => !o || (decide (A = 0) || decide (B = 0))).map fun A => 2 ^ m * B + A := by
  unfold stepsP
  rw [Nat.pow_add, range_mul, filter_flat, flatMap_filter]
  refine flatMap_congr' (fun B hB => ?_)
  have hB' := List.mem_range.1 hB
  rw [map_filter', List.filter_filter]
  have e : ((List.range (2 ^ m)).filter fun A => stepP (m + n) (sideF m f g o) (2 ^ m * B + A)) = (List.range (2 ^ m)).filter fun A => stepP n g B && (stepP m f A && (!o || (decide (A = 0) || decide (B = 0)))) :=
    List.filter_congr (fun A hA => stepP_side o hf hg (List.mem_range.1 hA) hB')
  rw [e]
  cases h : stepP n g B with
  | true =>
    rw [if_pos rfl]
    congr 1
    refine List.filter_congr (fun A _ => ?_)
    rw [Bool.true_and, Bool.and_comm]
  | false =>
    rw [if_neg (by decide)]
    simp
/-- the sum of F 0, .. F (k - 1) -/
def sm (F : Nat → Int) : Nat → Int
  | 0 => 0
  | k + 1 => sm F k + F k
theorem sm_congr {F G : Nat → Int} : ∀ k, (∀ i, i < k → F i = G i) → sm F k = sm G k := by
  intro k
  induction k with
  | zero => intro _; rfl
  | succ k ih => intro h; rw [sm, sm, ih (fun i hi => h i (by omega)), h k (by omega)]
theorem sm_add (F G : Nat → Int) : ∀ k, sm (fun i => F i + G i) k = sm F k + sm G k := by
  intro k
  induction k with
  | zero => rfl
  | succ k ih => rw [sm, sm, sm, ih]; omega
theorem sm_zero : ∀ k, sm (fun _ => 0) k = 0 := by
  intro k
  induction k with
  | zero => rfl
  | succ k ih => rw [sm, ih]; rfl
theorem sm_mul (c : Int) (F : Nat → Int) : ∀ k, sm (fun i => c * F i) k = c * sm F k := by
  intro k
  induction k with
  | zero => simp [sm]
  | succ k ih => rw [sm, sm, ih, Int.mul_add]
theorem sm_swap (G : Nat → Nat → Int) : ∀ K L, sm (fun k => sm (fun i => G i k) L) K = sm (fun i => sm (fun k => G i k) K) L := by
  intro K
  induction K with
  | zero => intro L; exact (sm_zero L).symm
  | succ K ih =>
    intro L
    rw [sm, ih L]
    exact (sm_add _ _ L).symm
theorem sm_single (j : Nat) (F : Nat → Int) : ∀ k, sm (fun i => if i = j then F i else 0) k = if j < k then F j else 0 := by
  intro k
  induction k with
  | zero => simp [sm]
  | succ k ih =>
    rw [sm, ih]
    by_cases h1 : j < k
    · rw [if_pos h1, if_neg (by omega), if_pos (by omega)]; simp
    · rw [if_neg h1]
      by_cases h2 : k = j
      · subst h2; rw [if_pos rfl, if_pos (by omega)]; simp
      · rw [if_neg h2, if_neg (by omega)]; rfl
/-- the sum of F over a list's sizes -/
def ls (F : Nat → Int) : List Nat → Int
  | [] => 0
  | x :: l => F (pcP x) + ls F l
theorem ls_sm (F : Nat → Int) (K : Nat) : ∀ l : List Nat, (∀ x ∈ l, pcP x < K) → ls F l = sm (fun k => (manyK l k : Int) * F k) K := by
  intro l
  induction l with
  | nil => intro _; simp only [ls, manyK, List.filter_nil, List.length_nil]; rw [sm_congr (G := fun _ => 0) K (fun i _ => by simp), sm_zero]
  | cons x l ih =>
    intro h
    rw [ls, ih (fun y hy => h y (List.mem_cons_of_mem _ hy))]
    have e : sm (fun k => (manyK (x :: l) k : Int) * F k) K = sm (fun k => (if k = pcP x then F k else 0) + (manyK l k : Int) * F k) K := sm_congr K (fun k _ => by
      rw [manyK_cons]
      by_cases g : k = pcP x
      · rw [if_pos g, if_pos g, Int.natCast_add, Int.add_mul]; simp
      · rw [if_neg g, if_neg g]; simp)
    rw [e, sm_add, sm_single, if_pos (h x (List.mem_cons_self ..))]
theorem manyK_append (a b : List Nat) (t : Nat) : manyK (a ++ b) t = manyK a t + manyK b t := by simp [manyK]
theorem manyK_ls (l : List Nat) (t : Nat) : (manyK l t : Int) = ls (fun i => if i = t then 1 else 0) l := by
  induction l with
  | nil => rfl
  | cons x l ih =>
    rw [manyK_cons, ls, ← ih, Int.natCast_add]
    by_cases g : t = pcP x
    · rw [if_pos g, if_pos g.symm]; rfl
    · rw [if_neg g, if_neg (fun e => g e.symm)]; rfl
theorem ls_append (F : Nat → Int) : ∀ a b : List Nat, ls F (a ++ b) = ls F a + ls F b := by
  intro a b
  induction a with
  | nil => simp [ls]
  | cons x a ih => rw [List.cons_append, ls, ls, ih]; omega
theorem ls_shift (F : Nat → Int) (m B : Nat) : ∀ l : List Nat, (∀ A ∈ l, A < 2 ^ m) → ls F (l.map fun A => 2 ^ m * B + A) = ls (fun i => F (pcP B + i)) l := by
  intro l
  induction l with
  | nil => intro _; rfl
  | cons A l ih =>
    intro h
    rw [List.map_cons, ls, ls, ih (fun x hx => h x (List.mem_cons_of_mem _ hx)), pcP_side m A B (h A (List.mem_cons_self ..))]
theorem ls_congr {F G : Nat → Int} : ∀ l : List Nat, (∀ x ∈ l, F (pcP x) = G (pcP x)) → ls F l = ls G l := by
  intro l
  induction l with
  | nil => intro _; rfl
  | cons x l ih => intro h; rw [ls, ls, h x (List.mem_cons_self ..), ih (fun y hy => h y (List.mem_cons_of_mem _ hy))]
theorem stepsP_lt {m : Nat} {f : Nat → Nat → Bool} : ∀ A ∈ stepsP m f, A < 2 ^ m := fun A h => List.mem_range.1 (List.mem_filter.1 h).1
theorem steps_zero {m : Nat} {f : Nat → Nat → Bool} (hr : ∀ a, a < m → f a a = true) : (0 : Nat) ∈ stepsP m f :=
  List.mem_filter.2 ⟨List.mem_range.2 (Nat.two_pow_pos m), (stepP_iff m f hr 0).2 fun a b _ _ h => by rw [Nat.zero_testBit] at h; exact absurd h (by simp)⟩
theorem sgK_add (i k : Nat) : sgK (i + k) = sgK i * sgK k := by
  unfold sgK
  rcases Nat.mod_two_eq_zero_or_one i with h1 | h1 <;> rcases Nat.mod_two_eq_zero_or_one k with h2 | h2
  · rw [h1, h2, show (i + k) % 2 = 0 by omega]; rfl
  · rw [h1, h2, show (i + k) % 2 = 1 by omega]; rfl
  · rw [h1, h2, show (i + k) % 2 = 1 by omega]; rfl
  · rw [h1, h2, show (i + k) % 2 = 0 by omega]; rfl
theorem rd_clique (ms : List Nat) (i : Nat) : rd (cliqueP ms) (i : Int) = sgK i * (manyK ms i : Int) := by
  have := rd_foldK ms [] i
  unfold cliqueP
  rw [this]
  have hz : rd ([] : List Int) (i : Int) = 0 := by rw [rd_nat]; simp
  rw [hz, Int.zero_add]
theorem clique_len {ms : List Nat} (h : ms ≠ []) : (∀ x ∈ ms, pcP x < (cliqueP ms).length) ∧ ∃ x ∈ ms, (cliqueP ms).length = pcP x + 1 := by
  obtain ⟨_, h2, h3⟩ := len_foldK ms []
  refine ⟨h2, ?_⟩
  rcases h3 with h3 | h3
  · obtain ⟨m, hm⟩ := List.exists_mem_of_ne_nil ms h
    have h4 := h2 m hm
    rw [h3] at h4
    exact absurd h4 (by simp)
  · exact h3
theorem filter_all {α : Type} {p : α → Bool} (h : ∀ x, p x = true) (l : List α) : l.filter p = l := List.filter_eq_self.2 (fun x _ => h x)
/-- the polynomial of a direct product -/
theorem direct_coeff {m n : Nat} {f g : Nat → Nat → Bool} (hf : ∀ a, a < m → f a a = true) (hg : ∀ a, a < n → g a a = true) (t : Nat) :
    rd (cliqueP (stepsP (m + n) (sideF m f g false))) (t : Int) = sm (fun i => sm (fun k => if i + k = t then rd (cliqueP (stepsP m f)) (i : Int) * rd (cliqueP (stepsP n g)) (k : Int) else 0) (cliqueP (stepsP n g)).length) (cliqueP (stepsP m f)).length := by
  obtain ⟨bf, _⟩ := clique_len (List.ne_nil_of_mem (steps_zero hf))
  obtain ⟨bg, _⟩ := clique_len (List.ne_nil_of_mem (steps_zero hg))
  rw [rd_clique, manyK_ls, steps_side false hf hg]
  have e0 : ∀ l : List Nat, ls (fun i => if i = t then 1 else 0) (l.flatMap fun B => ((stepsP m f).filter fun A => !false || (decide (A = 0) || decide (B = 0))).map fun A => 2 ^ m * B + A) = ls (fun k => ls (fun i => if k + i = t then 1 else 0) (stepsP m f)) l := by
    intro l
    induction l with
    | nil => rfl
    | cons B l ih =>
      rw [List.flatMap_cons, ls_append, ih, ls, filter_all (fun A => by simp), ls_shift _ m B _ stepsP_lt]
  rw [e0, ls_sm _ _ _ bg, sm_congr (G := fun k => sm (fun i => (manyK (stepsP n g) k : Int) * ((manyK (stepsP m f) i : Int) * if k + i = t then 1 else 0)) (cliqueP (stepsP m f)).length) _ (fun k _ => by
    rw [ls_sm _ _ _ bf, sm_mul]), sm_swap, ← sm_mul]
  refine sm_congr _ (fun i _ => ?_)
  rw [← sm_mul]
  refine sm_congr _ (fun k _ => ?_)
  by_cases h : k + i = t
  · rw [if_pos h, if_pos (show i + k = t by omega), rd_clique, rd_clique, ← h, Nat.add_comm k i, sgK_add, Int.mul_one]
    rw [Int.mul_comm (manyK (stepsP n g) k : Int)]
    ac_rfl
  · rw [if_neg h, if_neg (show ¬ i + k = t by omega)]
    simp
theorem direct_len {m n : Nat} {f g : Nat → Nat → Bool} (hf : ∀ a, a < m → f a a = true) (hg : ∀ a, a < n → g a a = true) :
    (cliqueP (stepsP (m + n) (sideF m f g false))).length + 1 = (cliqueP (stepsP m f)).length + (cliqueP (stepsP n g)).length := by
  obtain ⟨bf, A, hA, eA⟩ := clique_len (List.ne_nil_of_mem (steps_zero hf))
  obtain ⟨bg, B, hB, eB⟩ := clique_len (List.ne_nil_of_mem (steps_zero hg))
  obtain ⟨bh, C, hC, eC⟩ := clique_len (List.ne_nil_of_mem (steps_zero (sideF_refl (m := m) (n := n) false hf hg)))
  have h1 : 2 ^ m * B + A ∈ stepsP (m + n) (sideF m f g false) := by
    rw [steps_side false hf hg]
    exact List.mem_flatMap.2 ⟨B, hB, List.mem_map.2 ⟨A, List.mem_filter.2 ⟨hA, by simp⟩, rfl⟩⟩
  have h2 := bh _ h1
  rw [pcP_side m A B (stepsP_lt A hA)] at h2
  rw [steps_side false hf hg] at hC
  obtain ⟨B2, hB2, hC⟩ := List.mem_flatMap.1 hC
  obtain ⟨A2, hA2, rfl⟩ := List.mem_map.1 hC
  have hA2' := (List.mem_filter.1 hA2).1
  rw [pcP_side m A2 B2 (stepsP_lt A2 hA2')] at eC
  have := bf A2 hA2'
  have := bg B2 hB2
  omega
theorem ls_filter0 (F : Nat → Int) : ∀ l : List Nat, l.Nodup → (0 : Nat) ∈ l → ls F (l.filter fun A => decide (A = 0)) = F 0 := by
  intro l
  induction l with
  | nil => intro _ h; cases h
  | cons x l ih =>
    intro hn h
    rw [List.nodup_cons] at hn
    rw [List.filter_cons]
    by_cases g : x = 0
    · subst g
      rw [if_pos (by simp), ls, List.filter_eq_nil_iff.2 (fun y hy => by
        simp only [decide_eq_true_eq]
        intro e
        subst e
        exact hn.1 hy), ls, pcP_zero]
      omega
    · rw [if_neg (by simpa using g)]
      rcases List.mem_cons.1 h with h | h
      · exact absurd h.symm g
      · exact ih hn.2 h
theorem steps_nodup (m : Nat) (f : Nat → Nat → Bool) : (stepsP m f).Nodup := List.Pairwise.filter _ List.nodup_range
/-- the polynomial of a free product -/
theorem free_coeff {m n : Nat} {f g : Nat → Nat → Bool} (hf : ∀ a, a < m → f a a = true) (hg : ∀ a, a < n → g a a = true) (t : Nat) :
    rd (cliqueP (stepsP (m + n) (sideF m f g true))) (t : Int) - rd (cliqueP (stepsP m f)) (t : Int) - rd (cliqueP (stepsP n g)) (t : Int) = if t = 0 then -1 else 0 := by
  rw [rd_clique, rd_clique, rd_clique, manyK_ls, manyK_ls (stepsP m f), manyK_ls (stepsP n g), steps_side true hf hg]
  have e0 : ∀ l : List Nat, l.Nodup → ls (fun i => if i = t then 1 else 0) (l.flatMap fun B => ((stepsP m f).filter fun A => !true || (decide (A = 0) || decide (B = 0))).map fun A => 2 ^ m * B + A) =
      ls (fun i => if i = t then 1 else 0) l + (if (0 : Nat) ∈ l then ls (fun i => if i = t then 1 else 0) (stepsP m f) - (if 0 = t then 1 else 0) else 0) := by
    intro l
    induction l with
    | nil => intro _; simp [ls]
    | cons B l ih =>
      intro hn
      rw [List.nodup_cons] at hn
      rw [List.flatMap_cons, ls_append, ih hn.2, ls]
      by_cases g0 : B = 0
      · subst g0
        rw [if_neg hn.1, if_pos (List.mem_cons_self ..), filter_all (fun A => by simp), ls_shift _ m 0 _ stepsP_lt, pcP_zero]
        simp only [Nat.zero_add]
        omega
      · have e1 : ((stepsP m f).filter fun A => !true || (decide (A = 0) || decide (B = 0))) = (stepsP m f).filter fun A => decide (A = 0) := List.filter_congr (fun A _ => by simp [g0])
        rw [e1, ls_shift _ m B _ (fun A hA => stepsP_lt A (List.mem_filter.1 hA).1), ls_filter0 _ _ (steps_nodup m f) (steps_zero hf), Nat.add_zero]
        by_cases h0 : (0 : Nat) ∈ l
        · rw [if_pos h0, if_pos (List.mem_cons_of_mem _ h0)]
          omega
        · rw [if_neg h0, if_neg (fun z => (List.mem_cons.1 z).elim (fun e => g0 e.symm) h0)]
          omega
  rw [e0 _ (steps_nodup n g), if_pos (steps_zero hg)]
  by_cases h : t = 0
  · subst h
    rw [if_pos rfl, if_pos rfl]
    unfold sgK
    omega
  · rw [if_neg (fun e => h e.symm), if_neg h]
    generalize ls (fun i => if i = t then 1 else 0) (stepsP n g) = X
    generalize ls (fun i => if i = t then 1 else 0) (stepsP m f) = Y
    rw [Int.sub_zero, Int.mul_add]
    omega
end Go.Proofs.YtemdfjdmokbcoaaDoor.Q
