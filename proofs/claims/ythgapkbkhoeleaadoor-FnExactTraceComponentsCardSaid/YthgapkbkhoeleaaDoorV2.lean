import Derived.Test.YthgapkbkhoeleaaDoorPAllx2
import Derived.Test.YthgapkbkhoeleaaDoorV0
import Derived.Test.YthgapkbkhoeleaaDoorV1
import Derived.Test.YthgapkbkhoeleaaDoorQBase
import Derived.Test.YthgapkbkhoeleaaDoorQMask
import Derived.Test.YthgapkbkhoeleaaDoorQMeet
import Derived.Test.YthgapkbkhoeleaaDoorQRev
import Derived.Test.YthgapkbkhoeleaaDoorQTrace
set_option linter.unusedVariables false
set_option linter.unusedSimpArgs false
namespace Go.Proofs.YthgapkbkhoeleaaDoor.PAll
open Go.RowKit Go.Proofs.YthgapkbkhoeleaaDoorW.PrintWords Go.Proofs.YthgapkbkhoeleaaDoorW.PrintMore Go.Proofs.YthgapkbkhoeleaaDoor.Q
theorem l03Word_l0 (n : Int) (hn : 0 ≤ n ∧ n ≤ 8) (w : List Int) (hw : w.length ≤ 24) : ∀ (d i : Nat), i + d = w.length → (∀ j (h : j < w.length), j < i → 0 ≤ w[j] ∧ w[j] ≤ n - 1) → Ev (fun k => spec_l03Word.l0 k n w i) (decide (Word n w)) := by
  intro d
  induction d with
  | zero =>
    intro i hi hp
    refine Ev.succ ?_
    simp only [spec_l03Word.l0]
    refine Ev.neg (by omega) (Ev.const ?_)
    have hW : Word n w := ⟨hw, fun x hx => by obtain ⟨j, hj, rfl⟩ := List.getElem_of_mem hx; exact hp j hj (by omega)⟩
    rw [decide_eq_true hW]
  | succ d ih =>
    intro i hi hp
    refine Ev.succ ?_
    simp only [spec_l03Word.l0, l01In_eq]
    refine Ev.pos (by omega) (Ev.pos (by omega) (Ev.some_bind ?_))
    rw [rd_lt w i (by omega), w64' (show -9000000000000000000 ≤ n - 1 ∧ n - 1 ≤ 9000000000000000000 by omega)]
    simp only [decide_eq_true_eq]
    refine Ev.ite (fun c => ?_) (fun c => ?_)
    · rw [w64' (by omega)]
      refine ih (i + 1) (by omega) (fun j h hji => ?_)
      by_cases e : j = i
      · subst e; exact c
      · exact hp j h (by omega)
    · refine Ev.const ?_
      rw [decide_eq_false fun h => c (h.2 _ (List.getElem_mem (by omega)))]
theorem l03Word_ev (n : Int) (hn : 0 ≤ n ∧ n ≤ 8) (w : List Int) : Ev (fun k => spec_l03Word.f k n w) (decide (Word n w)) := by
  simp only [spec_l03Word.f]
  refine Ev.ite (fun c => Ev.const ?_) (fun c => ?_)
  · rw [decide_eq_false fun h => by have := h.1; omega]
  · exact l03Word_l0 n hn w (by omega) w.length 0 (by omega) (by intro j h hj; omega)
theorem wordB_eq (n : Int) (hn : 0 ≤ n ∧ n ≤ 8) (w : List Int) : wordB n w = decide (Word n w) := by
  unfold wordB
  rw [Bool.eq_iff_iff, w64' (by omega)]
  rw [decide_eq_true_iff]
  simp [Word, List.all_eq_true]
theorem checkWords_ev (n : Int) (D : List Int) (ws : List (List Int)) : Ev (fun k => impl_checkWords.f k n D ws) (if Alpha n D then (if ∀ w ∈ ws, Word n w then 0 else 2) else 1) := by
  simp only [impl_checkWords.f]
  refine Ev.bind (IsAlphabet_ev n D) (Ev.const ?_)
  congr 1
  by_cases h : Alpha n D
  · rw [if_pos (by simpa using h), if_pos h]
    by_cases g : ∀ w ∈ ws, Word n w
    · rw [if_pos g, if_pos]
      rw [List.all_eq_true]
      exact fun w hw => by rw [wordB_eq n h.1]; simpa using g w hw
    · rw [if_neg g, if_neg]
      rw [List.all_eq_true]
      exact fun k => g fun w hw => by have := k w hw; rw [wordB_eq n h.1] at this; simpa using this
  · rw [if_neg (by simpa using h), if_neg h]
theorem l01Own_eq (l : List Int) (h : l.length < 17592186044416) : spec_l01Own.f l = some l := by
  unfold spec_l01Own.f
  simp only [Option.bind_some, List.length_nil, List.nil_append]
  rw [if_pos (by omega)]
theorem l03First_l0 (n : Nat) (hn : n ≤ 24) (f : Nat → Nat → Bool) (a : Nat) (ha : a < n) : ∀ (suf pre : List Nat), (pre ++ suf).length ≤ 1000000 → (∀ x ∈ pre ++ suf, x < n) →
    Ev (fun k => spec_l03First.l0 k (ints (pre ++ suf)) (a : Int) (pre.length : Int) (n : Int) (mat n f)) (if isFirst f suf a = true then ((pre.length + suf.idxOf a : Nat) : Int) else -1) := by
  intro suf
  induction suf with
  | nil =>
    intro pre hl hw
    refine Ev.succ ?_
    simp only [spec_l03First.l0]
    exact Ev.neg (by simp) (Ev.const rfl)
  | cons b suf ih =>
    intro pre hl hw
    simp only [List.length_append, List.length_cons] at hl
    have hb : b < n := mem_mid hw
    refine Ev.succ ?_
    simp only [spec_l03First.l0]
    refine Ev.pos (by simp; omega) (Ev.pos (by omega) ?_)
    rw [rd_mid]
    refine Ev.ite (fun c => ?_) (fun c => ?_)
    · obtain rfl := Int.ofNat.inj c
      refine Ev.const ?_
      rw [if_pos (isFirst_head f b suf)]
      simp
    · have c' : ¬ b = a := fun e => c (by rw [e])
      rw [l02Dep_eq n hn f _ b a hb ha]
      refine Ev.some_bind (Ev.ite (fun g => ?_) (fun g => ?_))
      · refine Ev.const ?_
        rw [if_neg (by simp [isFirst, c', g])]
      · rw [w64' (by omega)]
        have := ih (pre ++ [b]) (by simp; omega) (by simpa using hw)
        simp only [List.append_assoc, List.cons_append, List.nil_append, List.length_append, List.length_cons, List.length_nil] at this
        refine Ev.val this ?_
        have e1 : isFirst f (b :: suf) a = isFirst f suf a := by simp [isFirst, c', g]
        rw [e1, idxOf_tail _ c']
        by_cases h : isFirst f suf a = true
        · rw [if_pos h, if_pos h]
          congr 1
          omega
        · rw [if_neg h, if_neg h]
theorem l03First_ev (n : Nat) (hn : n ≤ 24) (f : Nat → Nat → Bool) (w : List Nat) (hl : w.length ≤ 1000000) (hw : ∀ x ∈ w, x < n) (a : Nat) (ha : a < n) : Ev (fun k => spec_l03First.f k (n : Int) (mat n f) (ints w) (a : Int)) (fIdx f w a) := by
  simp only [spec_l03First.f]
  have := l03First_l0 n hn f a ha w [] hl hw
  simpa [fIdx] using this
theorem l03Without_eq (w : List Nat) (hl : w.length ≤ 1000000) (i : Nat) (hi : i < w.length) : spec_l03Without.f (ints w) (i : Int) = some (ints (w.eraseIdx i)) := by
  unfold spec_l03Without.f
  rw [if_pos (by omega), if_pos (by simp; omega), w64' (by omega), Int.toNat_natCast, l01Own_eq _ (by simp; omega)]
  simp only [Option.bind_some]
  rw [if_pos (by omega), if_pos (by simp; omega), show ((i : Int) + 1).toNat = i + 1 by omega, if_pos (by simp; omega), ← ints_eraseIdx, List.eraseIdx_eq_take_drop_succ]
theorem l03Without_first (f : Nat → Nat → Bool) (w : List Nat) (hl : w.length ≤ 1000000) (a : Nat) (h : isFirst f w a = true) : spec_l03Without.f (ints w) (fIdx f w a) = some (ints (w.erase a)) := by
  have hm := isFirst_mem f h
  unfold fIdx
  rw [if_pos h, l03Without_eq w hl _ (idxOf_lt hm), erase_idx hm]
theorem l03Normal_l0 (n : Nat) (hn : n ≤ 24) (f : Nat → Nat → Bool) : ∀ (L : Nat) (w : List Nat) (acc : List Int), w.length = L → acc.length + w.length ≤ 1000000 → (∀ x ∈ w, x < n) →
    Ev (fun k => spec_l03Normal.l0 k acc (ints w) (n : Int) (mat n f)) (acc ++ ints (normalP f n w)) := by
  intro L
  induction L with
  | zero =>
    intro w acc hL hl hw
    obtain rfl := List.eq_nil_of_length_eq_zero hL
    refine Ev.succ ?_
    simp only [spec_l03Normal.l0]
    refine Ev.neg (by simp [ints]) (Ev.const ?_)
    simp [normalP_nil, ints]
  | succ L ih =>
    intro w acc hL hl hw
    have hne : w ≠ [] := by rintro rfl; simp at hL
    obtain ⟨h1, h2, h3⟩ := least_first f hw hne
    rw [normalP_cons f hw hne]
    refine Ev.succ ?_
    simp only [spec_l03Normal.l0]
    refine Ev.pos (by simp; omega) ?_
    have inner : ∀ (d a : Nat), a + d = leastF (isFirst f w) n → Ev (fun k => spec_l03Normal.l1 k acc (ints w) (a : Int) (n : Int) (mat n f)) (acc ++ ints (leastF (isFirst f w) n :: normalP f n (w.erase (leastF (isFirst f w) n)))) := by
      intro d
      induction d with
      | zero =>
        intro a ha
        obtain rfl : a = leastF (isFirst f w) n := by omega
        refine Ev.succ ?_
        simp only [spec_l03Normal.l1]
        refine Ev.pos (by omega) (Ev.bind (l03First_ev n hn f w (by omega) hw _ h1) (Ev.pos (by unfold fIdx; rw [if_pos h2]; omega) (Ev.pos (by omega) ?_)))
        rw [l03Without_first f w (by omega) _ h2]
        refine Ev.some_bind ?_
        have he := length_erase f h2
        refine Ev.val (ih _ _ (by omega) (by simp; omega) (erase_lt hw)) ?_
        rw [ints_cons]
        simp
      | succ d ihd =>
        intro a ha
        refine Ev.succ ?_
        simp only [spec_l03Normal.l1]
        refine Ev.pos (by omega) (Ev.bind (l03First_ev n hn f w (by omega) hw a (by omega)) (Ev.neg (by unfold fIdx; rw [h3 a (by omega)]; simp) ?_))
        rw [w64' (by omega)]
        exact ihd (a + 1) (by omega)
    exact inner (leastF (isFirst f w) n) 0 (by omega)
theorem l03Normal_ev (n : Nat) (hn : n ≤ 24) (f : Nat → Nat → Bool) (w : List Nat) (hl : w.length ≤ 1000000) (hw : ∀ x ∈ w, x < n) : Ev (fun k => spec_l03Normal.f k (n : Int) (mat n f) (ints w)) (ints (normalP f n w)) := by
  simp only [spec_l03Normal.f]
  rw [l01Own_eq _ (by simp; omega)]
  refine Ev.some_bind (Ev.val (l03Normal_l0 n hn f _ w [] rfl (by simpa using hl) hw) (by simp))
theorem Index_l0 (a : Nat) : ∀ (suf pre : List Nat), (pre ++ suf).length ≤ 1000000 →
    Ev (fun k => slices_Index_int64_int64.l0 k (ints (pre ++ suf)) (a : Int) ((pre ++ suf).length : Int) (pre.length : Int)) (if a ∈ suf then ((pre.length + suf.idxOf a : Nat) : Int) else -1) := by
  intro suf
  induction suf with
  | nil =>
    intro pre hl
    refine Ev.succ ?_
    simp only [slices_Index_int64_int64.l0]
    exact Ev.neg (by simp) (Ev.const rfl)
  | cons b suf ih =>
    intro pre hl
    simp only [List.length_append, List.length_cons] at hl
    refine Ev.succ ?_
    simp only [slices_Index_int64_int64.l0]
    refine Ev.pos (by simp; omega) (Ev.pos (by omega) (Ev.pos (by simp; omega) ?_))
    rw [rd_mid]
    refine Ev.ite (fun c => ?_) (fun c => ?_)
    · obtain rfl := Int.ofNat.inj c
      refine Ev.const ?_
      simp
    · have c' : ¬ b = a := fun e => c (by rw [e])
      rw [w64' (by omega)]
      have := ih (pre ++ [b]) (by simp; omega)
      simp only [List.append_assoc, List.cons_append, List.nil_append, List.length_append, List.length_cons, List.length_nil] at this ⊢
      refine Ev.val this ?_
      rw [idxOf_tail _ c']
      have e1 : a ∈ b :: suf ↔ a ∈ suf := by simp [List.mem_cons, show ¬ a = b from fun e => c' e.symm]
      by_cases h : a ∈ suf
      · rw [if_pos h, if_pos (e1.2 h)]
        congr 1
        omega
      · rw [if_neg h, if_neg (fun k => h (e1.1 k))]
theorem Index_ev (w : List Nat) (hl : w.length ≤ 1000000) (a : Nat) : Ev (fun k => slices_Index_int64_int64.f k (ints w) (a : Int)) (if a ∈ w then ((w.idxOf a : Nat) : Int) else -1) := by
  simp only [slices_Index_int64_int64.f]
  have := Index_l0 a w [] hl
  simpa using this
theorem withoutFirst_ev (w : List Nat) (hl : w.length ≤ 1000000) (a : Nat) (h : a ∈ w) : Ev (fun k => impl_withoutFirst.f k (ints w) (a : Int)) (ints (w.erase a)) := by
  simp only [impl_withoutFirst.f]
  have hi := idxOf_lt h
  refine Ev.bind (Index_ev w hl a) ?_
  rw [if_pos h]
  refine Ev.pos (by omega) (Ev.pos (by simp; omega) ?_)
  rw [w64' (by omega)]
  refine Ev.pos (by omega) (Ev.pos (by simp; omega) ?_)
  rw [Int.toNat_natCast, show ((w.idxOf a : Int) + 1).toNat = w.idxOf a + 1 by omega]
  refine Ev.const ?_
  unfold slices_Concat_int64_int64.f
  rw [if_pos (by simp; omega), ← erase_idx h, ← ints_eraseIdx, List.eraseIdx_eq_take_drop_succ]
  simp
theorem isFirst_snoc (f : Nat → Nat → Bool) (w : List Nat) (x a : Nat) : isFirst f (w ++ [x]) a = (isFirst f w a || (decide (x = a) && w.all fun b => !f b a)) := by
  induction w with
  | nil => simp [isFirst]
  | cons b w ih =>
    simp only [List.cons_append, isFirst, ih, List.all_cons]
    cases decide (b = a) <;> cases f b a <;> cases isFirst f w a <;> simp
theorem firsts_l0 (n : Nat) (hn : n ≤ 8) (f : Nat → Nat → Bool) : ∀ (suf pre : List Nat), (pre ++ suf).length ≤ 1000000 → (∀ x ∈ pre ++ suf, x < n) →
    Ev (fun k => impl_ties_firsts.l0 k (mat n f) ((mk n (isFirst f pre) : Nat) : Int) ((mk n (fun a => pre.any fun b => f b a) : Nat) : Int) (ints (pre ++ suf)) ((pre ++ suf).length : Int) (pre.length : Int)) ((mk n (isFirst f (pre ++ suf)) : Nat) : Int) := by
  intro suf
  induction suf with
  | nil =>
    intro pre hl hw
    refine Ev.succ ?_
    simp only [impl_ties_firsts.l0]
    exact Ev.neg (by simp) (Ev.const (by simp))
  | cons x suf ih =>
    intro pre hl hw
    have hx : x < n := mem_mid hw
    have i1 := ih (pre ++ [x]) (by simpa using hl) (by simpa using hw)
    simp only [List.append_assoc, List.cons_append, List.nil_append] at i1
    rw [show (pre ++ [x]).length = pre.length + 1 by simp] at i1
    have hl' : pre.length + suf.length + 1 ≤ 1000000 := by simpa [Nat.add_assoc] using hl
    have h1 := mk_lt n (isFirst f pre)
    have h2 := mk_lt n (fun a => pre.any fun b => f b a)
    have h3 := mk_lt n (f x)
    have h4 : (2 : Nat) ^ n ≤ 2 ^ 24 := pow24 (by omega)
    have h5 : (2 : Nat) ^ x ≤ 2 ^ 24 := pow24 (by omega)
    have eb : mk n (fun a => (pre ++ [x]).any fun b => f b a) = mk n (fun a => pre.any fun b => f b a) ||| mk n (f x) := bits_ext fun i => by
      rw [Nat.testBit_or, testBit_mk, testBit_mk, testBit_mk]
      by_cases hi : i < n <;> simp [hi]
    rw [eb] at i1
    refine Ev.succ ?_
    simp only [impl_ties_firsts.l0]
    refine Ev.pos (by simp; omega) (Ev.pos (by omega) (Ev.pos (by simp; omega) ?_))
    rw [rd_mid, has_eq _ x (by omega) (by omega), rd_mat n f x hx, b_or _ _ (by omega) (by omega), testBit_mk]
    refine Ev.some_bind (Ev.ite (fun g => ?_) (fun g => ?_))
    · refine Ev.pos (by omega) (Ev.pos (by simp; omega) ?_)
      rw [w64' (by omega)]
      have eo : mk n (isFirst f (pre ++ [x])) = mk n (isFirst f pre) := mk_congr fun a _ => by
        rw [isFirst_snoc]
        by_cases e : x = a
        · subst e
          have : (pre.all fun b => !f b x) = false := by
            rw [← Bool.not_eq_true]
            simp [hx] at g
            obtain ⟨b, hb, hf⟩ := g
            intro h
            have := List.all_eq_true.1 h b hb
            simp [hf] at this
          rw [this]; simp
        · simp [e]
      rw [eo] at i1
      exact i1
    · rw [one_eq x (by omega)]
      refine Ev.some_bind (Ev.pos (by omega) (Ev.pos (by simp; omega) ?_))
      rw [w64' (by omega), b_or _ _ (by omega) (by omega)]
      have eo : mk n (isFirst f (pre ++ [x])) = mk n (isFirst f pre) ||| 2 ^ x := bits_ext fun i => by
        rw [Nat.testBit_or, testBit_mk, testBit_mk, testBit_one, isFirst_snoc]
        by_cases e : x = i
        · subst e
          have : (pre.all fun b => !f b x) = true := by
            rw [List.all_eq_true]
            intro b hb
            simp only [hx, decide_true, Bool.true_and] at g
            have := fun h => g (List.any_eq_true.2 ⟨b, hb, h⟩)
            simpa using this
          simp [hx, this]
        · simp [e]
      rw [eo] at i1
      exact i1
theorem firsts_ev (n : Nat) (hn : n ≤ 8) (f : Nat → Nat → Bool) (w : List Nat) (hl : w.length ≤ 1000000) (hw : ∀ x ∈ w, x < n) : Ev (fun k => impl_ties_firsts.f k (mat n f) (ints w)) ((mk n (isFirst f w) : Nat) : Int) := by
  simp only [impl_ties_firsts.f]
  have := firsts_l0 n hn f w [] hl hw
  have e1 : mk n (isFirst f []) = 0 := Nat.eq_of_testBit_eq fun i => by rw [testBit_mk]; simp [isFirst]
  have e2 : mk n (fun a => ([] : List Nat).any fun b => f b a) = 0 := Nat.eq_of_testBit_eq fun i => by rw [testBit_mk]; simp
  rw [e1, e2] at this
  simpa using this
theorem normal_l0 (n : Nat) (hn : n ≤ 8) (f : Nat → Nat → Bool) : ∀ (L : Nat) (w : List Nat) (acc : List Int), w.length = L → acc.length + w.length ≤ 1000000 → (∀ x ∈ w, x < n) →
    Ev (fun k => impl_ties_normal.l0 k (mat n f) acc (ints w)) (acc ++ ints (normalP f n w)) := by
  intro L
  induction L with
  | zero =>
    intro w acc hL hl hw
    obtain rfl := List.eq_nil_of_length_eq_zero hL
    refine Ev.succ ?_
    simp only [impl_ties_normal.l0]
    refine Ev.neg (by simp [ints]) (Ev.const ?_)
    simp [normalP_nil, ints]
  | succ L ih =>
    intro w acc hL hl hw
    have hne : w ≠ [] := by rintro rfl; simp at hL
    obtain ⟨h1, h2, h3⟩ := least_first f hw hne
    rw [normalP_cons f hw hne]
    have h4 := mk_lt n (isFirst f w)
    have h5 : (2 : Nat) ^ n ≤ 2 ^ 24 := pow24 (by omega)
    refine Ev.succ ?_
    simp only [impl_ties_normal.l0]
    refine Ev.pos (by simp; omega) (Ev.bind (firsts_ev n hn f w (by omega) hw) ?_)
    rw [least_eq _ (by omega), ctz_mk (by omega) ⟨_, h1, h2⟩]
    refine Ev.some_bind (Ev.pos (by omega) (Ev.bind (withoutFirst_ev w (by omega) _ (isFirst_mem f h2)) ?_))
    have he := length_erase f h2
    refine Ev.val (ih _ _ (by omega) (by simp; omega) (erase_lt hw)) ?_
    rw [ints_cons]
    simp
theorem normal_ev (n : Nat) (hn : n ≤ 8) (f : Nat → Nat → Bool) (w : List Nat) (hl : w.length ≤ 1000000) (hw : ∀ x ∈ w, x < n) : Ev (fun k => impl_ties_normal.f k (mat n f) (ints w)) (ints (normalP f n w)) := by
  simp only [impl_ties_normal.f]
  refine Ev.pos (by omega) (Ev.pos (by simp; omega) (Ev.val (normal_l0 n hn f _ w [] rfl (by simpa using hl) hw) (by simp)))
theorem check_ok {n : Nat} {D : List Int} (hA : Alpha (n : Int) D) (ws : List (List Int)) (h : ∀ w ∈ ws, Word (n : Int) w) : Ev (fun k => impl_checkWords.f k (n : Int) D ws) 0 := by
  have := checkWords_ev (n : Int) D ws
  rwa [if_pos hA, if_pos h] at this
theorem check_1 {n : Nat} {f : Nat → Nat → Bool} (hA : Alpha (n : Int) (mat n f)) {u : List Nat} (hl : u.length ≤ 24) (hu : ∀ x ∈ u, x < n) : Ev (fun k => impl_checkWords.f k (n : Int) (mat n f) [ints u]) 0 :=
  check_ok hA _ fun w hw => by rw [List.mem_singleton.1 hw]; exact Word.of hl hu
theorem check_2 {n : Nat} {f : Nat → Nat → Bool} (hA : Alpha (n : Int) (mat n f)) {u v : List Nat} (hl : u.length ≤ 24) (hu : ∀ x ∈ u, x < n) (hl2 : v.length ≤ 24) (hv : ∀ x ∈ v, x < n) : Ev (fun k => impl_checkWords.f k (n : Int) (mat n f) [ints u, ints v]) 0 :=
  check_ok hA _ fun w hw => by
    rcases List.mem_cons.1 hw with rfl | hw
    · exact Word.of hl hu
    · rw [List.mem_singleton.1 hw]; exact Word.of hl2 hv
end Go.Proofs.YthgapkbkhoeleaaDoor.PAll
