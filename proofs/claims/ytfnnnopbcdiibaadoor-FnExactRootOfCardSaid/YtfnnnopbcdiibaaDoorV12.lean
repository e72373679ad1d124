import Derived.Test.YtfnnnopbcdiibaaDoorPAllx1
import Derived.Test.YtfnnnopbcdiibaaDoorPAllx19
import Derived.Test.YtfnnnopbcdiibaaDoorPAllx9
import Derived.Test.YtfnnnopbcdiibaaDoorV0
import Derived.Test.YtfnnnopbcdiibaaDoorV2
import Derived.Test.YtfnnnopbcdiibaaDoorV3
import Derived.Test.YtfnnnopbcdiibaaDoorV6
import Derived.Test.YtfnnnopbcdiibaaDoorQBase
import Derived.Test.YtfnnnopbcdiibaaDoorQMeet
import Derived.Test.YtfnnnopbcdiibaaDoorQOrder
import Derived.Test.YtfnnnopbcdiibaaDoorQRev
import Derived.Test.YtfnnnopbcdiibaaDoorQTrace
set_option linter.unusedVariables false
set_option linter.unusedSimpArgs false
namespace Go.Proofs.YtfnnnopbcdiibaaDoor.PAll
open Go.RowKit Go.Proofs.YtfnnnopbcdiibaaDoorW.PrintWords Go.Proofs.YtfnnnopbcdiibaaDoorW.PrintMore Go.Proofs.YtfnnnopbcdiibaaDoor.Q
/-- a word, some times -/
def powP (u : List Nat) (k : Nat) : List Nat := (List.replicate k u).flatten
theorem powP_succ (u : List Nat) (k : Nat) : powP u (k + 1) = u ++ powP u k := by simp [powP, List.replicate_succ]
theorem powP_length (u : List Nat) (k : Nat) : (powP u k).length = k * u.length := by
  induction k with
  | zero => simp [powP]
  | succ k ih => rw [powP_succ, List.length_append, ih, Nat.succ_mul]; omega
theorem powP_lt {n : Nat} {u : List Nat} (hu : ∀ x ∈ u, x < n) (k : Nat) : ∀ x ∈ powP u k, x < n := by
  induction k with
  | zero => intro x hx; simp [powP] at hx
  | succ k ih => rw [powP_succ]; exact mem_app hu ih
theorem ints_powP (u : List Nat) (k : Nat) : (List.replicate k (ints u)).flatten = ints (powP u k) := by
  induction k with
  | zero => rfl
  | succ k ih => rw [powP_succ, ints_append, List.replicate_succ, List.flatten_cons, ih]
theorem l07Power_ev (u : List Nat) (hl : u.length ≤ 24) : ∀ (k : Nat) (acc : List Nat), k ≤ 24 → acc.length + k * 24 ≤ 1000 → Ev (fun q => spec_l07Power.l0 q (ints u) (k : Int) (ints acc)) (ints (acc ++ powP u k)) := by
  intro k
  induction k with
  | zero =>
    intro acc _ _
    refine Ev.succ ?_
    simp only [spec_l07Power.l0]
    exact Ev.neg (by omega) (Ev.const (by simp [powP]))
  | succ k ih =>
    intro acc hk ha
    have i1 := ih (acc ++ u) (by omega) (by rw [List.length_append]; omega)
    refine Ev.succ ?_
    simp only [spec_l07Power.l0]
    refine Ev.pos (by omega) (Ev.pos (by rw [ints_length, ints_length]; omega) ?_)
    rw [w64' (by omega), show ((k + 1 : Nat) : Int) - 1 = (k : Int) by omega, ← ints_append]
    exact Ev.val i1 (by rw [powP_succ, List.append_assoc])
/-- the first ones of each letter, as many as a k-th part of all -/
def fstN (w : List Nat) (k : Nat) : List Nat → List Nat → List Nat
  | _, [] => []
  | pre, a :: s => if (pre.count a + 1) * k ≤ w.count a then a :: fstN w k (pre ++ [a]) s else fstN w k (pre ++ [a]) s
theorem count_ints (w : List Nat) (a : Nat) : (ints w).count (a : Int) = w.count a := by
  induction w with
  | nil => rfl
  | cons b w ih =>
    rw [ints_cons, List.count_cons, List.count_cons, ih]
    congr 1
    have : ((b : Int) == (a : Int)) = (b == a) := by rw [Bool.eq_iff_iff, beq_iff_eq, beq_iff_eq]; omega
    rw [this]
theorem fstI_ints (w : List Nat) (k : Nat) : ∀ s pre : List Nat, fstI (ints w) (k : Int) (ints pre) (ints s) = ints (fstN w k pre s) := by
  intro s
  induction s with
  | nil => intro pre; rfl
  | cons a s ih =>
    intro pre
    rw [ints_cons]
    simp only [fstI, fstN]
    rw [count_ints, count_ints, show ints pre ++ [(a : Int)] = ints (pre ++ [a]) by rw [ints_append]; rfl, ih]
    have e : ((pre.count a : Nat) : Int) + 1 = ((pre.count a + 1 : Nat) : Int) := by omega
    by_cases g : (pre.count a + 1) * k ≤ w.count a
    · rw [if_pos g, if_pos (by rw [e, ← Int.natCast_mul]; exact_mod_cast g)]; rfl
    · rw [if_neg g, if_neg (by rw [e, ← Int.natCast_mul]; exact_mod_cast g)]
theorem fstN_lt {n : Nat} {w : List Nat} (k : Nat) : ∀ s pre : List Nat, (∀ x ∈ s, x < n) → ∀ x ∈ fstN w k pre s, x < n := by
  intro s
  induction s with
  | nil => intro pre _ x hx; simp [fstN] at hx
  | cons a s ih =>
    intro pre h x hx
    simp only [fstN] at hx
    have h' : ∀ x ∈ s, x < n := fun y hy => h y (List.mem_cons_of_mem _ hy)
    split at hx
    · rcases List.mem_cons.1 hx with rfl | hx
      · exact h _ List.mem_cons_self
      · exact ih _ h' x hx
    · exact ih _ h' x hx
theorem fstN_length {w : List Nat} (k : Nat) : ∀ s pre : List Nat, (fstN w k pre s).length ≤ s.length := by
  intro s
  induction s with
  | nil => intro pre; simp [fstN]
  | cons a s ih =>
    intro pre
    have := ih (pre ++ [a])
    simp only [fstN]
    split <;> simp only [List.length_cons] <;> omega
theorem fstN_count {w : List Nat} {k : Nat} (hk : 1 ≤ k) (a : Nat) : ∀ s pre : List Nat, pre ++ s = w → (fstN w k pre s).count a = w.count a / k - pre.count a := by
  intro s
  induction s with
  | nil =>
    intro pre h
    rw [List.append_nil] at h
    subst h
    have := Nat.div_le_self (pre.count a) k
    simp only [fstN, List.count_nil]
    omega
  | cons b s ih =>
    intro pre h
    have i1 := ih (pre ++ [b]) (by rw [List.append_assoc]; exact h)
    rw [List.count_append] at i1
    have hd : ∀ c, (pre.count c + 1) * k ≤ w.count c ↔ pre.count c + 1 ≤ w.count c / k := fun c => (Nat.le_div_iff_mul_le (by omega)).symm
    simp only [fstN]
    by_cases e : b = a
    · subst e
      have c1 : List.count b [b] = 1 := by simp
      rw [c1] at i1
      by_cases g : (pre.count b + 1) * k ≤ w.count b
      · rw [if_pos g, List.count_cons_self, i1]
        have := (hd b).1 g
        omega
      · rw [if_neg g, i1]
        have : ¬ pre.count b + 1 ≤ w.count b / k := fun z => g ((hd b).2 z)
        omega
    · have c1 : List.count a [b] = 0 := by simp [e]
      rw [c1] at i1
      split
      · rw [List.count_cons_of_ne (by simpa using e), i1]
        simp
      · rw [i1]
        simp
def sumC : Nat → (Nat → Nat) → Nat
  | 0, _ => 0
  | m + 1, g => sumC m g + g m
theorem count_sum {n : Nat} : ∀ u : List Nat, (∀ x ∈ u, x < n) → u.length = sumC n fun a => u.count a := by
  intro u
  induction u with
  | nil =>
    intro _
    have : ∀ m, sumC m (fun a => List.count a ([] : List Nat)) = 0 := by
      intro m
      induction m with
      | zero => rfl
      | succ m ih => simp only [sumC]; rw [ih]; simp
    rw [this]; rfl
  | cons b u ih =>
    intro h
    rw [List.length_cons, ih (fun x hx => h x (List.mem_cons_of_mem _ hx))]
    have : ∀ m, sumC m (fun a => List.count a (b :: u)) = sumC m (fun a => List.count a u) + if b < m then 1 else 0 := by
      intro m
      induction m with
      | zero => rfl
      | succ m ihm =>
        simp only [sumC]
        rw [ihm, List.count_cons]
        by_cases e : b = m
        · subst e; simp; omega
        · have e' : (b == m) = false := by simpa using e
          rw [e']
          by_cases g : b < m
          · simp only [if_pos g, if_pos (show b < m + 1 by omega), Bool.false_eq_true, if_false]; omega
          · simp only [if_neg g, if_neg (show ¬ b < m + 1 by omega), Bool.false_eq_true, if_false]; omega
    rw [this, if_pos (h b List.mem_cons_self)]
theorem sumC_le {g h : Nat → Nat} : ∀ m, (∀ a, a < m → g a ≤ h a) → sumC m g ≤ sumC m h ∧ (sumC m g = sumC m h → ∀ a, a < m → g a = h a) := by
  intro m
  induction m with
  | zero => intro _; exact ⟨Nat.le_refl _, fun _ a ha => by omega⟩
  | succ m ih =>
    intro H
    obtain ⟨i1, i2⟩ := ih (fun a ha => H a (by omega))
    have hm := H m (by omega)
    simp only [sumC]
    refine ⟨by omega, fun e a ha => ?_⟩
    by_cases ea : a = m
    · subst ea; omega
    · exact i2 (by omega) a (by omega)
theorem sumC_mul (g : Nat → Nat) (k : Nat) : ∀ m, sumC m (fun a => g a * k) = sumC m g * k := by
  intro m
  induction m with
  | zero => simp [sumC]
  | succ m ih => simp only [sumC]; rw [ih, Nat.add_mul]
theorem fst_fits {n : Nat} {w : List Nat} (hw : ∀ x ∈ w, x < n) {k : Nat} (hk : 1 ≤ k) : (fstN w k [] w).length * k = w.length ↔ ∀ a, a < n → w.count a % k = 0 := by
  have e1 : (fstN w k [] w).length * k = sumC n fun a => w.count a / k * k := by
    rw [count_sum _ (fstN_lt k w [] hw), ← sumC_mul]
    have : ∀ m, sumC m (fun a => List.count a (fstN w k [] w) * k) = sumC m fun a => w.count a / k * k := by
      intro m
      induction m with
      | zero => rfl
      | succ m ih =>
        have h1 := fstN_count hk m w [] (List.nil_append w)
        simp only [List.count_nil, Nat.sub_zero] at h1
        simp only [sumC]
        rw [ih, h1]
    rw [this]
  have e2 := count_sum w hw
  have hle : ∀ a, a < n → w.count a / k * k ≤ w.count a := fun a _ => Nat.div_mul_le_self _ _
  obtain ⟨s1, s2⟩ := sumC_le n hle
  rw [e1, e2]
  constructor
  · intro h a ha
    have := s2 h a ha
    have hm := Nat.div_add_mod (w.count a) k
    rw [Nat.mul_comm] at hm
    omega
  · intro h
    have : ∀ m, m ≤ n → sumC m (fun a => w.count a / k * k) = sumC m fun a => w.count a := by
      intro m
      induction m with
      | zero => intro _; rfl
      | succ m ih =>
        intro hm
        simp only [sumC]
        rw [ih (by omega)]
        have h1 := h m (by omega)
        have h2 := Nat.div_add_mod (w.count m) k
        rw [Nat.mul_comm] at h2
        omega
    exact this n (Nat.le_refl _)
theorem two_step {P : Nat → Prop} (h0 : P 0) (h1 : P 1) (h : ∀ k, P (k + 1) → P (k + 2)) : ∀ K, P K := by
  intro K
  induction K with
  | zero => exact h0
  | succ K ih =>
    cases K with
    | zero => exact h1
    | succ k => exact h k ih
/-- the root and the exponent, looked for from k on downwards -/
def rootK (f : Nat → Nat → Bool) (n : Nat) (w : List Nat) : Nat → List Nat × Nat
  | 0 => (normalP f n w, 1)
  | 1 => (normalP f n w, 1)
  | k + 2 => if (∀ a, a < n → w.count a % (k + 2) = 0) ∧ TrEq f (powP (fstN w (k + 2) [] w) (k + 2)) w then (normalP f n (fstN w (k + 2) [] w), k + 2) else rootK f n w (k + 1)
theorem rootK_ok {f : Nat → Nat → Bool} (hs : ∀ a b, f a b = f b a) {n : Nat} {w : List Nat} (hw : ∀ x ∈ w, x < n) : ∀ k, (rootK f n w k).1.length ≤ w.length ∧ (rootK f n w k).2 ≤ max k 1 := by
  intro k
  induction k using two_step with
  | h0 => simp only [rootK]; rw [normalP_length f hs hw]; omega
  | h1 => simp only [rootK]; rw [normalP_length f hs hw]; omega
  | h k ih =>
    simp only [rootK]
    split
    · have := fstN_length (w := w) (k + 2) w []
      rw [normalP_length f hs (fstN_lt (k + 2) w [] hw)]
      omega
    · omega
theorem fstN_snoc (w : List Nat) (k a : Nat) : ∀ s pre : List Nat, fstN w k pre (s ++ [a]) = fstN w k pre s ++ if ((pre ++ s).count a + 1) * k ≤ w.count a then [a] else [] := by
  intro s
  induction s with
  | nil => intro pre; simp only [List.nil_append, fstN, List.append_nil]
  | cons b s ih =>
    intro pre
    have := ih (pre ++ [b])
    rw [List.append_assoc, List.singleton_append] at this
    simp only [List.cons_append, fstN]
    split
    · rw [this]; rfl
    · exact this
theorem fstN_min {w : List Nat} {k : Nat} (hk : 1 ≤ k) (a : Nat) : ∀ s pre : List Nat, (fstN w k pre s).count a = min ((pre ++ s).count a) (w.count a / k) - min (pre.count a) (w.count a / k) := by
  intro s
  induction s with
  | nil => intro pre; simp [fstN]
  | cons b s ih =>
    intro pre
    have i1 := ih (pre ++ [b])
    have hp : (pre ++ [b]).count a = pre.count a + [b].count a := List.count_append
    rw [List.append_assoc, List.singleton_append, hp] at i1
    have hd : (pre.count a + 1) * k ≤ w.count a ↔ pre.count a + 1 ≤ w.count a / k := (Nat.le_div_iff_mul_le (by omega)).symm
    have hc : (pre ++ b :: s).count a = pre.count a + (b :: s).count a := List.count_append
    simp only [fstN]
    by_cases e : b = a
    · subst e
      have c1 : List.count b [b] = 1 := by simp
      have c2 : List.count b (b :: s) = List.count b s + 1 := by simp
      rw [c1] at i1
      by_cases g : (pre.count b + 1) * k ≤ w.count b
      · rw [if_pos g, List.count_cons_self, i1]
        have := hd.1 g
        omega
      · rw [if_neg g, i1]
        have : ¬ pre.count b + 1 ≤ w.count b / k := fun z => g (hd.2 z)
        omega
    · have c1 : List.count a [b] = 0 := by simp [e]
      rw [c1] at i1
      split
      · rw [List.count_cons_of_ne (by simpa using e), i1]; omega
      · rw [i1]; omega
def cntL (n : Nat) (w : List Nat) : List Int := (List.range n).map fun a => ((w.count a : Nat) : Int)
theorem cntL_length (n : Nat) (w : List Nat) : (cntL n w).length = n := by simp [cntL]
theorem rd_cntL {n : Nat} (w : List Nat) {a : Nat} (h : a < n) : rd (cntL n w) (a : Int) = ((w.count a : Nat) : Int) := by
  rw [rd_lt _ _ (by rw [cntL_length]; exact h)]; simp [cntL]
theorem cntL_set {n : Nat} (w : List Nat) {a : Nat} (h : a < n) : (cntL n w).set a (((w.count a : Nat) : Int) + 1) = cntL n (w ++ [a]) := by
  apply List.ext_getElem
  · simp [cntL]
  · intro i h1 h2
    have hi : i < n := by simpa [cntL] using h2
    rw [List.getElem_set]
    simp only [cntL, List.getElem_map, List.getElem_range, List.count_append]
    by_cases e : a = i
    · subst e; rw [if_pos rfl]; simp
    · rw [if_neg e]; simp [e]
theorem take_snoc' (w : List Nat) (i : Nat) (h : i < w.length) : w.take (i + 1) = w.take i ++ [w.getD i 0] := by
  rw [List.take_add_one, List.getElem?_eq_getElem h, List.getD_eq_getElem?_getD, List.getElem?_eq_getElem h]; rfl
theorem l03Content_ev {n : Nat} (hn : n ≤ 24) (f : Nat → Nat → Bool) {w : List Nat} (hl : w.length ≤ 1000) (hw : ∀ x ∈ w, x < n) : Ev (fun k => spec_l03Content.f k (n : Int) (mat n f) (ints w)) (cntL n w) := by
  have loop : ∀ (d i : Nat), i + d = w.length → Ev (fun k => spec_l03Content.l0 k (ints w) (cntL n (w.take i)) (i : Int)) (cntL n w) := by
    intro d
    induction d with
    | zero =>
      intro i hi
      refine Ev.succ ?_
      simp only [spec_l03Content.l0]
      rw [List.take_of_length_le (by omega)]
      exact Ev.neg (by simp; omega) (Ev.now _)
    | succ d ih =>
      intro i hi
      have i1 := ih (i + 1) (by omega)
      have hx : w.getD i 0 < n := getD_lt hw (by omega)
      have hc := List.count_le_length (a := w.getD i 0) (l := w.take i)
      rw [List.length_take] at hc
      refine Ev.succ ?_
      simp only [spec_l03Content.l0]
      rw [rd_getD w i]
      refine Ev.pos (by simp; omega) (Ev.pos (by omega) (Ev.pos (by omega) (Ev.pos (by rw [cntL_length]; omega) ?_)))
      rw [rd_cntL _ hx, Int.toNat_natCast, w64' (x := ((List.count (w.getD i 0) (w.take i) : Nat) : Int) + 1) (by omega), cntL_set _ hx, ← take_snoc' w i (by omega), w64' (by omega)]
      exact i1
  simp only [spec_l03Content.f]
  refine Ev.pos (by omega) (Ev.pos (by omega) ?_)
  have e : List.replicate ((n : Int)).toNat (0 : Int) = cntL n (w.take 0) := by
    rw [Int.toNat_natCast]
    apply List.ext_getElem
    · simp [cntL]
    · intro i h1 h2; simp [cntL]
  rw [e]
  exact loop w.length 0 (by omega)
theorem l07Root_l0 {n : Nat} (hn : n ≤ 24) {f : Nat → Nat → Bool} {w : List Nat} (hl : w.length ≤ 24) (hw : ∀ x ∈ w, x < n) : ∀ K : Nat, K ≤ 24 → Ev (fun k => spec_l07Root.l0 k (ints w) (cntL n w) (K : Int) (n : Int) (mat n f)) (ints (rootK f n w K).1, ((rootK f n w K).2 : Int)) := by
  intro K
  induction K using two_step with
  | h0 =>
    intro _
    refine Ev.succ ?_
    simp only [spec_l07Root.l0, rootK]
    exact Ev.neg (by decide) (Ev.bind (l03Normal_ev n (by omega) f w (by omega) hw) (Ev.now _))
  | h1 =>
    intro _
    refine Ev.succ ?_
    simp only [spec_l07Root.l0, rootK]
    exact Ev.neg (by decide) (Ev.bind (l03Normal_ev n (by omega) f w (by omega) hw) (Ev.now _))
  | h K ih =>
    intro hK
    have ih := ih (by omega)
    obtain ⟨q, hq⟩ : ∃ q, q = K + 2 := ⟨_, rfl⟩
    have hq1 : wrap64 (((K + 2 : Nat) : Int) - 1) = ((K + 1 : Nat) : Int) := by rw [w64' (by omega)]; omega
    have next : ¬ ((∀ a, a < n → w.count a % (K + 2) = 0) ∧ TrEq f (powP (fstN w (K + 2) [] w) (K + 2)) w) → Ev (fun k => spec_l07Root.l0 k (ints w) (cntL n w) (wrap64 (((K + 2 : Nat) : Int) - 1)) (n : Int) (mat n f)) (ints (rootK f n w (K + 2)).1, ((rootK f n w (K + 2)).2 : Int)) := fun h => by
      rw [hq1]
      have : rootK f n w (K + 2) = rootK f n w (K + 1) := by simp only [rootK]; rw [if_neg h]
      rw [this]; exact ih
    have l2 : (∀ a, a < n → w.count a % (K + 2) = 0) → ∀ (d i : Nat), i + d = w.length → Ev (fun k => spec_l07Root.l2 k (ints w) (cntL n w) ((K + 2 : Nat) : Int) (cntL n (fstN w (K + 2) [] (w.take i))) (ints (fstN w (K + 2) [] (w.take i))) (i : Int) (n : Int) (mat n f)) (ints (rootK f n w (K + 2)).1, ((rootK f n w (K + 2)).2 : Int)) := by
      intro hfit d
      induction d with
      | zero =>
        intro i hi
        have ht := fstN_length (w := w) (K + 2) w []
        have hlt := fstN_lt (w := w) (K + 2) w [] hw
        have hp := powP_length (fstN w (K + 2) [] w) (K + 2)
        have hmul : (K + 2) * (fstN w (K + 2) [] w).length ≤ 24 * 24 := Nat.mul_le_mul hK (by omega)
        refine Ev.succ ?_
        simp only [spec_l07Root.l2, spec_l07Power.f]
        rw [List.take_of_length_le (by omega)]
        have hpw := l07Power_ev (fstN w (K + 2) [] w) (by omega) (K + 2) [] hK (by simp; omega)
        rw [List.nil_append] at hpw
        refine Ev.neg (by simp; omega) (Ev.bind hpw (Ev.bind (l03Same_ev n hn f _ w (by omega) (by omega) (powP_lt hlt _) hw) ?_))
        by_cases g : TrEq f (powP (fstN w (K + 2) [] w) (K + 2)) w
        · refine Ev.pos (decide_eq_true g) (Ev.bind (l03Normal_ev n (by omega) f _ (by omega) hlt) (Ev.const ?_))
          simp only [rootK]
          rw [if_pos ⟨hfit, g⟩]
        · exact Ev.neg (by simpa using g) (next (fun z => g z.2))
      | succ d ihd =>
        intro i hi
        have i1 := ihd (i + 1) (by omega)
        have hx : w.getD i 0 < n := getD_lt hw (by omega)
        have hmin := fstN_min (w := w) (k := K + 2) (by omega) (w.getD i 0) (w.take i) []
        rw [List.nil_append] at hmin
        have hfl := fstN_length (w := w) (K + 2) (w.take i) []
        rw [List.length_take] at hfl
        have hcw := List.count_le_length (a := w.getD i 0) (l := w)
        have hdiv : Int.tdiv ((w.count (w.getD i 0) : Nat) : Int) ((K + 2 : Nat) : Int) = ((w.count (w.getD i 0) / (K + 2) : Nat) : Int) := (Int.ofNat_tdiv _ _).symm
        have hdl := Nat.div_le_self (w.count (w.getD i 0)) (K + 2)
        have hd : ((w.take i).count (w.getD i 0) + 1) * (K + 2) ≤ w.count (w.getD i 0) ↔ (w.take i).count (w.getD i 0) + 1 ≤ w.count (w.getD i 0) / (K + 2) := (Nat.le_div_iff_mul_le (by omega)).symm
        have hsn := fstN_snoc w (K + 2) (w.getD i 0) (w.take i) []
        rw [List.nil_append, ← take_snoc' w i (by omega)] at hsn
        simp only [List.count_nil, Nat.zero_min, Nat.sub_zero] at hmin
        generalize w.count (w.getD i 0) / (K + 2) = q at hmin hdiv hdl hd
        refine Ev.succ ?_
        simp only [spec_l07Root.l2]
        rw [rd_getD w i, rd_cntL _ hx, rd_cntL _ hx, hdiv, w64' (x := (q : Int)) (by omega), w64' (x := (i : Int) + 1) (by omega)]
        refine Ev.pos (by simp; omega) (Ev.pos (by omega) (Ev.pos (by omega) (Ev.pos (by rw [cntL_length]; omega) (Ev.pos (by rw [cntL_length]; omega) (Ev.neg (by omega) ?_)))))
        by_cases g : ((w.take i).count (w.getD i 0) + 1) * (K + 2) ≤ w.count (w.getD i 0)
        · have := hd.1 g
          rw [if_pos g] at hsn
          refine Ev.pos (by rw [hmin]; omega) (Ev.pos (by rw [ints_length]; omega) ?_)
          rw [Int.toNat_natCast, w64' (by rw [hmin]; omega), cntL_set _ hx, show ints (fstN w (K + 2) [] (w.take i)) ++ [((w.getD i 0 : Nat) : Int)] = ints (fstN w (K + 2) [] (w.take i) ++ [w.getD i 0]) by rw [ints_append]; rfl, ← hsn]
          exact i1
        · have : ¬ (w.take i).count (w.getD i 0) + 1 ≤ q := fun z => g (hd.2 z)
          rw [if_neg g, List.append_nil] at hsn
          refine Ev.neg (by rw [hmin]; omega) ?_
          rw [← hsn]
          exact i1
    have l1 : ∀ (d a : Nat) (q : Bool), a + d = n → (q = true ↔ ∀ b, b < a → w.count b % (K + 2) = 0) → Ev (fun k => spec_l07Root.l1 k (ints w) (cntL n w) ((K + 2 : Nat) : Int) q (a : Int) (n : Int) (mat n f)) (ints (rootK f n w (K + 2)).1, ((rootK f n w (K + 2)).2 : Int)) := by
      intro d
      induction d with
      | zero =>
        intro a q ha hq
        obtain rfl : a = n := by omega
        refine Ev.succ ?_
        simp only [spec_l07Root.l1]
        refine Ev.neg (by omega) ?_
        by_cases g : ∀ b, b < a → w.count b % (K + 2) = 0
        · refine Ev.pos (hq.2 g) (Ev.pos (by omega) (Ev.pos (by omega) ?_))
          have := l2 g w.length 0 (by omega)
          have e : cntL a (fstN w (K + 2) [] (w.take 0)) = List.replicate ((a : Int)).toNat 0 := by
            rw [Int.toNat_natCast]
            apply List.ext_getElem
            · simp [cntL]
            · intro i h1 h2; simp [cntL, fstN]
          rw [e] at this
          exact this
        · exact Ev.neg (fun z => g (hq.1 z)) (next (fun z => g z.1))
      | succ d ihd =>
        intro a q ha hq
        refine Ev.succ ?_
        simp only [spec_l07Root.l1]
        rw [w64' (x := (a : Int) + 1) (by omega), rd_cntL _ (show a < n by omega)]
        refine Ev.pos (by omega) ?_
        by_cases g : ∀ b, b < a → w.count b % (K + 2) = 0
        · refine Ev.pos (hq.2 g) (Ev.pos (by omega) (Ev.pos (by rw [cntL_length]; omega) (Ev.neg (by omega) ?_)))
          refine ihd (a + 1) _ (by omega) ?_
          rw [show Int.tmod ((w.count a : Nat) : Int) ((K + 2 : Nat) : Int) = ((w.count a % (K + 2) : Nat) : Int) from (Int.ofNat_tmod _ _).symm, beq_iff_eq]
          constructor
          · intro h b hb
            by_cases e : b = a
            · subst e; omega
            · exact g b (by omega)
          · intro h
            have := h a (by omega)
            omega
        · refine Ev.neg (fun z => g (hq.1 z)) (ihd (a + 1) false (by omega) ⟨(fun z => Bool.noConfusion z), (fun z => absurd (fun b hb => z b (by omega)) g)⟩)
    refine Ev.succ ?_
    simp only [spec_l07Root.l0]
    exact Ev.pos (by omega) (l1 n 0 true (by omega) ⟨fun _ b hb => by omega, fun _ => rfl⟩)
theorem l07Root_ev {n : Nat} (hn : n ≤ 24) {f : Nat → Nat → Bool} {w : List Nat} (hl : w.length ≤ 24) (hw : ∀ x ∈ w, x < n) : Ev (fun k => spec_l07Root.f k (n : Int) (mat n f) (ints w)) (ints (rootK f n w w.length).1, ((rootK f n w w.length).2 : Int)) := by
  simp only [spec_l07Root.f]
  refine Ev.bind (l03Content_ev hn f (by omega) hw) ?_
  simp only [ints_length]
  exact l07Root_l0 hn hl hw w.length hl
theorem root_l0 {n : Nat} (hn : n ≤ 8) {f : Nat → Nat → Bool} (hs : ∀ a b, f a b = f b a) {w : List Nat} (hl : w.length ≤ 24) (hw : ∀ x ∈ w, x < n) : ∀ K : Nat, K ≤ 24 → Ev (fun k => impl_ties_root.l0 k (mat n f) (ints w) (K : Int)) (ints (rootK f n w K).1, ((rootK f n w K).2 : Int)) := by
  intro K
  induction K using two_step with
  | h0 =>
    intro _
    refine Ev.succ ?_
    simp only [impl_ties_root.l0, rootK]
    exact Ev.neg (by decide) (Ev.bind (normal_ev n hn f w (by omega) hw) (Ev.now _))
  | h1 =>
    intro _
    refine Ev.succ ?_
    simp only [impl_ties_root.l0, rootK]
    exact Ev.neg (by decide) (Ev.bind (normal_ev n hn f w (by omega) hw) (Ev.now _))
  | h K ih =>
    intro hK
    have ih := ih (by omega)
    have hq1 : wrap64 (((K + 2 : Nat) : Int) - 1) = ((K + 1 : Nat) : Int) := by rw [w64' (by omega)]; omega
    have next : ¬ ((∀ a, a < n → w.count a % (K + 2) = 0) ∧ TrEq f (powP (fstN w (K + 2) [] w) (K + 2)) w) → Ev (fun k => impl_ties_root.l0 k (mat n f) (ints w) (wrap64 (((K + 2 : Nat) : Int) - 1))) (ints (rootK f n w (K + 2)).1, ((rootK f n w (K + 2)).2 : Int)) := fun h => by
      rw [hq1]
      have : rootK f n w (K + 2) = rootK f n w (K + 1) := by simp only [rootK]; rw [if_neg h]
      rw [this]; exact ih
    have ht := fstN_length (w := w) (K + 2) w []
    have hlt := fstN_lt (w := w) (K + 2) w [] hw
    have hp := powP_length (fstN w (K + 2) [] w) (K + 2)
    have hmul : (K + 2) * (fstN w (K + 2) [] w).length ≤ 24 * 24 := Nat.mul_le_mul hK (by omega)
    have hfits := fst_fits hw (k := K + 2) (by omega)
    have e1 : impl_firstsOf.f (ints w) ((K + 2 : Nat) : Int) = some (ints (fstN w (K + 2) [] w)) := by
      unfold impl_firstsOf.f
      rw [if_pos ⟨⟨by simpa using hl, by omega⟩, fun x hx => by
        obtain ⟨a, ha, rfl⟩ := List.mem_map.1 hx
        have := hw a ha
        omega⟩]
      have := fstI_ints w (K + 2) w []
      rw [show ints ([] : List Nat) = [] from rfl] at this
      rw [this]
    refine Ev.succ ?_
    simp only [impl_ties_root.l0]
    refine Ev.pos (by omega) ?_
    rw [e1]
    refine Ev.some_bind ?_
    simp only [impl_length_int64.f]
    refine Ev.some_bind (Ev.some_bind ?_)
    rw [ints_length, ints_length, ← Int.natCast_mul, Nat.mul_comm, w64' (by omega), Nat.mul_comm]
    by_cases g : (fstN w (K + 2) [] w).length * (K + 2) = w.length
    · refine Ev.pos (by omega) ?_
      unfold slices_Repeat_int64_int64.f
      rw [if_pos ⟨by omega, by rw [ints_length]; omega⟩, Int.toNat_natCast, ints_powP]
      refine Ev.some_bind (Ev.bind (same_ev n hn f hs _ w (by omega) (by omega) (powP_lt hlt _) hw) ?_)
      by_cases g2 : TrEq f (powP (fstN w (K + 2) [] w) (K + 2)) w
      · refine Ev.pos (decide_eq_true g2) (Ev.bind (normal_ev n hn f _ (by omega) hlt) (Ev.const ?_))
        simp only [rootK]
        rw [if_pos ⟨hfits.1 g, g2⟩]
      · exact Ev.neg (by simpa using g2) (next (fun z => g2 z.2))
    · exact Ev.neg (by omega) (next (fun z => g (hfits.2 z.1)))
theorem root_ev {n : Nat} (hn : n ≤ 8) {f : Nat → Nat → Bool} (hs : ∀ a b, f a b = f b a) {w : List Nat} (hl : w.length ≤ 24) (hw : ∀ x ∈ w, x < n) : Ev (fun k => impl_ties_root.f k (mat n f) (ints w)) (ints (rootK f n w w.length).1, ((rootK f n w w.length).2 : Int)) := by
  simp only [impl_ties_root.f]
  simp only [impl_length_int64.f]
  refine Ev.some_bind ?_
  rw [ints_length]
  exact root_l0 hn hs hl hw w.length hl
end Go.Proofs.YtfnnnopbcdiibaaDoor.PAll
