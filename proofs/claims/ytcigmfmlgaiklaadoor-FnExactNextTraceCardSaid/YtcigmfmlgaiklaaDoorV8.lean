import Derived.Test.YtcigmfmlgaiklaaDoorPAllx11
import Derived.Test.YtcigmfmlgaiklaaDoorPAllx12
import Derived.Test.YtcigmfmlgaiklaaDoorPAllx3
import Derived.Test.YtcigmfmlgaiklaaDoorV0
import Derived.Test.YtcigmfmlgaiklaaDoorV1
import Derived.Test.YtcigmfmlgaiklaaDoorQBase
import Derived.Test.YtcigmfmlgaiklaaDoorQMask
import Derived.Test.YtcigmfmlgaiklaaDoorQOrder
import Derived.Test.YtcigmfmlgaiklaaDoorQTrace
set_option linter.unusedVariables false
set_option linter.unusedSimpArgs false
namespace Go.Proofs.YtcigmfmlgaiklaaDoor.PAll
open Go.RowKit Go.Proofs.YtcigmfmlgaiklaaDoorW.PrintWords Go.Proofs.YtcigmfmlgaiklaaDoorW.PrintMore Go.Proofs.YtcigmfmlgaiklaaDoor.Q
theorem l06After_eq (n : Nat) (hn : n ≤ 24) (f : Nat → Nat → Bool) (x : Int) (M c : Nat) (hM : M < 2 ^ n) (hc : c < n) : spec_l06After.f x (mat n f) (M : Int) (c : Int) = some ((afterP n f M c : Nat) : Int) := by
  have h24 := pow_lt62 hn
  have hc24 : (2 : Nat) ^ c ≤ 2 ^ 24 := pow24 (by omega)
  have h1 := mk_lt n (f c)
  have h2 := mk_lt n (fun a => M.testBit a || decide (a < c))
  have h3 := mk_split n (fun a => M.testBit a || decide (a < c)) (f c)
  have h4 : (M ||| (2 ^ c - 1)) &&& mk n (f c) = mk n (fun a => (M.testBit a || decide (a < c)) && f c a) := by rw [or_full hM hc, mk_and]
  have h5 := mk_lt n (fun a => (M.testBit a || decide (a < c)) && f c a)
  have hp := Nat.two_pow_pos c
  unfold spec_l06After.f spec_l01Full_Bl06After.f
  rw [l01Full_eq c (by omega)]
  simp only [Option.bind_some]
  rw [if_pos (by omega), if_pos (by simp; omega), rd_mat n f c hc, b_or _ _ (by omega) (by omega), b_and _ _ (by rw [or_full hM hc]; omega) (mk62 (by omega) _), h4, or_full hM hc, w64' (by omega)]
  unfold afterP
  congr 1
  omega
theorem forbidden_eq (n : Nat) (hn : n ≤ 24) (f : Nat → Nat → Bool) (M c : Nat) (hM : M < 2 ^ n) (hc : c < n) : impl_ties_forbidden.f (mat n f) (M : Int) (c : Int) = some ((afterP n f M c : Nat) : Int) := by
  have h24 := pow_lt62 hn
  have hc24 : (2 : Nat) ^ c ≤ 2 ^ 24 := pow24 (by omega)
  have hp := Nat.two_pow_pos c
  unfold impl_ties_forbidden.f
  rw [one_eq c (by omega)]
  simp only [Option.bind_some]
  rw [if_pos (by omega), if_pos (by simp; omega), rd_mat n f c hc, w64' (by omega), show ((2 ^ c : Nat) : Int) - 1 = ((2 ^ c - 1 : Nat) : Int) by omega, b_or _ _ (by omega) (by omega), or_full hM hc, b_andNot _ _ (mk62 (by omega) _) (mk62 (by omega) _), mk_without (by omega)]
  rfl
theorem allLetters_eq (n : Nat) (hn : n ≤ 24) (D : List Int) : impl_allLetters.f (n : Int) D = some ((mk n (fun _ => true) : Nat) : Int) := by
  have h24 := pow_lt62 hn
  have hp := Nat.two_pow_pos n
  unfold impl_allLetters.f
  rw [one_eq n (by omega)]
  simp only [Option.bind_some]
  rw [w64' (by omega), ← mk_full]
  congr 1
  omega
theorem spec_Next_l3 (n : Nat) (hn : n ≤ 8) (f : Nat → Nat → Bool) (hr : ∀ a, a < n → f a a = true) (w : List Nat) (hl : w.length ≤ 100000) : ∀ (d : Nat) (out : List Nat) (M : Nat), out.length + d = w.length → M < 2 ^ n → (∃ a, a < n ∧ openP M a = true) →
    Ev (fun k => spec_NextTrace.l3 k (ints w) (ints out) (M : Int) (n : Int) (mat n f)) (ints (out ++ fillP n f d M), 0) := by
  have h24 := pow_lt62 (show n ≤ 24 by omega)
  intro d
  induction d with
  | zero =>
    intro out M hd hM ho
    refine Ev.succ ?_
    simp only [spec_NextTrace.l3]
    exact Ev.neg (by simp; omega) (Ev.const (by simp [fillP]))
  | succ d ih =>
    intro out M hd hM ho
    obtain ⟨q1, q2, q3⟩ := leastF_spec ho
    have next := ih (out ++ [leastF (openP M) n]) (afterP n f M (leastF (openP M) n)) (by simp; omega) (afterP_lt n f _ _) (afterP_open hr M q1)
    have scan : ∀ (e a : Nat), a + e = leastF (openP M) n → Ev (fun k => spec_NextTrace.l4 k (ints w) (ints out) (M : Int) (a : Int) (n : Int) (mat n f)) (ints (out ++ fillP n f (d + 1) M), 0) := by
      intro e
      induction e with
      | zero =>
        intro a ha
        rw [Nat.add_zero] at ha
        rw [← ha] at q1 q2 q3 next
        refine Ev.succ ?_
        simp only [spec_NextTrace.l4]
        rw [l01Bit_eq M a (by omega) (by omega)]
        refine Ev.some_bind (Ev.neg (by unfold openP at q2; simpa using q2) (Ev.pos (by simp; omega) ?_))
        rw [l06After_eq n (by omega) f _ M a hM q1]
        refine Ev.some_bind ?_
        rw [show ints out ++ [(a : Int)] = ints (out ++ [a]) by rw [ints_append]; rfl]
        exact Ev.val next (by simp only [fillP]; rw [← ha]; simp)
      | succ e ihe =>
        intro a ha
        have := q3 a (by omega)
        refine Ev.succ ?_
        simp only [spec_NextTrace.l4]
        rw [l01Bit_eq M a (by omega) (by omega)]
        refine Ev.some_bind (Ev.pos (by unfold openP at this; simpa using this) ?_)
        rw [w64' (by omega)]
        exact ihe (a + 1) (by omega)
    refine Ev.succ ?_
    simp only [spec_NextTrace.l3]
    exact Ev.pos (by simp; omega) (scan (leastF (openP M) n) 0 (by omega))
theorem spec_Next_l1 (n : Nat) (hn : n ≤ 8) (f : Nat → Nat → Bool) (hr : ∀ a, a < n → f a a = true) (w : List Nat) (hl : w.length ≤ 100000) (hw : ∀ x ∈ w, x < n) : ∀ (i : Nat), i ≤ w.length →
    Ev (fun k => spec_NextTrace.l1 k (ints w) (msks n f w (w.length + 1)) ((i : Int) - 1) (n : Int) (mat n f)) (nextR n f w i) := by
  have h24 := pow_lt62 (show n ≤ 24 by omega)
  intro i
  induction i with
  | zero =>
    intro _
    refine Ev.succ ?_
    simp only [spec_NextTrace.l1]
    exact Ev.neg (by omega) (Ev.now _)
  | succ i ih =>
    intro hi
    have i1 := ih (by omega)
    have hx := getD_lt hw (show i < w.length by omega)
    have hM := mskP_lt n f w i (by omega)
    have scan : ∀ (e c : Nat), c + e = n → (∀ c', c' < c → upP n f w i c' = false) → w.getD i 0 < c → Ev (fun k => spec_NextTrace.l2 k (ints w) (msks n f w (w.length + 1)) (i : Int) (c : Int) (n : Int) (mat n f)) (nextR n f w (i + 1)) := by
      intro e
      induction e with
      | zero =>
        intro c hc hno _
        refine Ev.succ ?_
        simp only [spec_NextTrace.l2]
        rw [nextR_miss n f w i (fun c' hc' => hno c' (by omega)), w64' (show -9000000000000000000 ≤ (i : Int) - 1 ∧ (i : Int) - 1 ≤ 9000000000000000000 by omega)]
        exact Ev.neg (by omega) i1
      | succ e ihe =>
        intro c hc hno hgt
        refine Ev.succ ?_
        simp only [spec_NextTrace.l2]
        refine Ev.pos (by omega) (Ev.pos (by omega) (Ev.pos (by rw [msks_length]; omega) ?_))
        rw [rd_msks n f w _ i (by omega), l01Bit_eq _ c (by omega) (by omega)]
        refine Ev.some_bind (Ev.ite (fun h => ?_) (fun h => ?_))
        · rw [w64' (by omega)]
          refine ihe (c + 1) (by omega) (fun c' hc' => ?_) (by omega)
          by_cases e1 : c' = c
          · subst e1; unfold upP openP; rw [h]; simp
          · exact hno c' (by omega)
        · have hup : upP n f w i c = true := by
            show (decide (w.getD i 0 < c) && !(mskP n f w i).testBit c) = true
            rw [decide_eq_true hgt, show (mskP n f w i).testBit c = false by simpa using h]; rfl
          have hle : leastF (upP n f w i) n = c := leastF_unique (by omega) hup hno
          have hex : ∃ c, c < n ∧ upP n f w i c = true := ⟨c, by omega, hup⟩
          rw [nextR_hit n f w i hex, hle]
          refine Ev.pos (by simp; omega) ?_
          rw [l01Own_eq _ (by simp; omega)]
          refine Ev.some_bind (Ev.pos (by simp; omega) ?_)
          rw [l06After_eq n (by omega) f _ _ c hM (by omega)]
          refine Ev.some_bind ?_
          rw [Int.toNat_natCast, show (ints w).take i ++ [(c : Int)] = ints (w.take i ++ [c]) by simp [ints]]
          have := spec_Next_l3 n hn f hr w hl (w.length - (i + 1)) (w.take i ++ [c]) (afterP n f (mskP n f w i) c) (by simp; omega) (afterP_lt n f _ _) (afterP_open hr _ (by omega))
          exact Ev.val this (by simp)
    refine Ev.succ ?_
    simp only [spec_NextTrace.l1]
    rw [show ((i + 1 : Nat) : Int) - 1 = (i : Int) by omega]
    refine Ev.pos (by omega) (Ev.pos (by omega) (Ev.pos (by simp; omega) ?_))
    rw [rd_getD, w64' (by omega)]
    exact scan (n - (w.getD i 0 + 1)) (w.getD i 0 + 1) (by omega) (fun c' hc' => by
      show (decide (w.getD i 0 < c') && _) = false
      rw [decide_eq_false (by omega)]; rfl) (by omega)
theorem spec_Next_l0 (n : Nat) (hn : n ≤ 8) (f : Nat → Nat → Bool) (hr : ∀ a, a < n → f a a = true) (w : List Nat) (hl : w.length ≤ 100000) (hw : ∀ x ∈ w, x < n) : ∀ (d i : Nat), i + d = w.length →
    Ev (fun k => spec_NextTrace.l0 k (ints w) (msks n f w (i + 1)) (i : Int) (n : Int) (mat n f)) (nextR n f w w.length) := by
  intro d
  induction d with
  | zero =>
    intro i hi
    obtain rfl : i = w.length := by omega
    refine Ev.succ ?_
    simp only [spec_NextTrace.l0]
    rw [ints_length, w64' (show -9000000000000000000 ≤ (w.length : Int) - 1 ∧ (w.length : Int) - 1 ≤ 9000000000000000000 by omega)]
    exact Ev.neg (by omega) (spec_Next_l1 n hn f hr w hl hw w.length (Nat.le_refl _))
  | succ d ih =>
    intro i hi
    have i1 := ih (i + 1) (by omega)
    rw [msks_succ, mskP_succ n f w i (by omega)] at i1
    refine Ev.succ ?_
    simp only [spec_NextTrace.l0]
    refine Ev.pos (by simp; omega) (Ev.pos (by omega) (Ev.pos (by rw [msks_length]; omega) ?_))
    rw [rd_getD, rd_msks n f w _ i (by omega), l06After_eq n (by omega) f _ _ _ (mskP_lt n f w i (by omega)) (getD_lt hw (by omega))]
    refine Ev.some_bind (Ev.pos (by rw [msks_length]; omega) ?_)
    rw [w64' (by omega)]
    exact i1
theorem impl_Next_l2 (n : Nat) (hn : n ≤ 8) (f : Nat → Nat → Bool) (hr : ∀ a, a < n → f a a = true) (w : List Nat) (hl : w.length ≤ 100000) (D : List Int) : ∀ (d : Nat) (out : List Nat) (M : Nat), out.length + d = w.length → M < 2 ^ n → (∃ a, a < n ∧ openP M a = true) →
    Ev (fun k => impl_NextTrace.l2 k (mat n f) (ints w) (M : Int) (ints out) (n : Int) D) (ints (out ++ fillP n f d M), 0) := by
  have h24 := pow_lt62 (show n ≤ 24 by omega)
  intro d
  induction d with
  | zero =>
    intro out M hd hM ho
    refine Ev.succ ?_
    simp only [impl_NextTrace.l2]
    exact Ev.neg (by simp; omega) (Ev.const (by simp [fillP]))
  | succ d ih =>
    intro out M hd hM ho
    obtain ⟨q1, q2, q3⟩ := leastF_spec ho
    have next := ih (out ++ [leastF (openP M) n]) (afterP n f M (leastF (openP M) n)) (by simp; omega) (afterP_lt n f _ _) (afterP_open hr M q1)
    have e1 : without (mk n fun _ => true) M = mk n (openP M) := by
      rw [show without (mk n fun _ => true) M = without (mk n fun _ => true) (mk n fun i => M.testBit i) by rw [← eq_mk hM], mk_without (by omega)]
      exact mk_congr fun i _ => by simp [openP]
    have hlt := mk_lt n (openP M)
    refine Ev.succ ?_
    simp only [impl_NextTrace.l2]
    refine Ev.pos (by simp; omega) ?_
    rw [allLetters_eq n (by omega)]
    refine Ev.some_bind ?_
    rw [b_andNot _ _ (mk62 (by omega) _) (by omega), e1, least_eq _ (by omega), ctz_mk (by omega) ho]
    refine Ev.some_bind (Ev.pos (by simp; omega) ?_)
    rw [forbidden_eq n (by omega) f M _ hM q1]
    refine Ev.some_bind ?_
    rw [show ints out ++ [((leastF (openP M) n : Nat) : Int)] = ints (out ++ [leastF (openP M) n]) by rw [ints_append]; rfl]
    exact Ev.val next (by simp [fillP])
theorem impl_Next_l1 (n : Nat) (hn : n ≤ 8) (f : Nat → Nat → Bool) (hr : ∀ a, a < n → f a a = true) (w : List Nat) (hl : w.length ≤ 100000) (hw : ∀ x ∈ w, x < n) (D : List Int) : ∀ (i : Nat), i ≤ w.length →
    Ev (fun k => impl_NextTrace.l1 k (mat n f) (ints w) (msks n f w w.length) ((i : Int) - 1) (n : Int) D) (nextR n f w i) := by
  have h24 := pow_lt62 (show n ≤ 24 by omega)
  intro i
  induction i with
  | zero =>
    intro _
    refine Ev.succ ?_
    simp only [impl_NextTrace.l1]
    exact Ev.neg (by omega) (Ev.now _)
  | succ i ih =>
    intro hi
    have i1 := ih (by omega)
    have hx := getD_lt hw (show i < w.length by omega)
    have hM := mskP_lt n f w i (by omega)
    have hp := Nat.two_pow_pos (w.getD i 0 + 1)
    have h25 : (2 : Nat) ^ (w.getD i 0 + 1) ≤ 2 ^ 24 := pow24 (by omega)
    have e1 : without (without (mk n fun _ => true) (mskP n f w i)) (2 ^ (w.getD i 0 + 1) - 1) = mk n (upP n f w i) := by
      rw [full_mk (show w.getD i 0 + 1 ≤ n by omega), show without (mk n fun _ => true) (mskP n f w i) = without (mk n fun _ => true) (mk n fun k => (mskP n f w i).testBit k) by rw [← eq_mk hM], mk_without (by omega), mk_without (by omega)]
      exact mk_congr fun c _ => by
        unfold upP openP
        by_cases h : w.getD i 0 < c
        · rw [decide_eq_true h, decide_eq_false (show ¬ c < w.getD i 0 + 1 by omega)]
          cases (mskP n f w i).testBit c <;> rfl
        · rw [decide_eq_false h, decide_eq_true (show c < w.getD i 0 + 1 by omega)]
          cases (mskP n f w i).testBit c <;> rfl
    have hlt := mk_lt n (upP n f w i)
    have hw0 : without (mk n fun _ => true) (mskP n f w i) < 2 ^ 62 := Nat.lt_of_le_of_lt (without_le _ _) (mk62 (by omega) _)
    refine Ev.succ ?_
    simp only [impl_NextTrace.l1]
    rw [show ((i + 1 : Nat) : Int) - 1 = (i : Int) by omega]
    refine Ev.pos (by omega) ?_
    rw [allLetters_eq n (by omega)]
    refine Ev.some_bind (Ev.pos (by omega) (Ev.pos (by rw [msks_length]; omega) (Ev.pos (by simp; omega) ?_)))
    rw [rd_getD, rd_msks n f w _ i (by omega), w64' (show -9000000000000000000 ≤ ((w.getD i 0 : Nat) : Int) + 1 ∧ ((w.getD i 0 : Nat) : Int) + 1 ≤ 9000000000000000000 by omega), show ((w.getD i 0 : Nat) : Int) + 1 = ((w.getD i 0 + 1 : Nat) : Int) by omega, one_eq _ (by omega)]
    refine Ev.some_bind ?_
    rw [w64' (show -9000000000000000000 ≤ ((2 ^ (w.getD i 0 + 1) : Nat) : Int) - 1 ∧ ((2 ^ (w.getD i 0 + 1) : Nat) : Int) - 1 ≤ 9000000000000000000 by omega), show ((2 ^ (w.getD i 0 + 1) : Nat) : Int) - 1 = ((2 ^ (w.getD i 0 + 1) - 1 : Nat) : Int) by omega, b_andNot _ _ (mk62 (by omega) _) (by omega), b_andNot _ _ hw0 (by omega), e1]
    by_cases hex : ∃ c, c < n ∧ upP n f w i c = true
    · obtain ⟨q1, q2, q3⟩ := leastF_spec hex
      have hne := mk_ne_zero hex
      refine Ev.neg (by omega) (Ev.pos (by simp; omega) ?_)
      rw [least_eq _ (by omega), ctz_mk (by omega) hex, nextR_hit n f w i hex, Int.toNat_natCast]
      unfold slices_Clone_int64_int64.f
      rw [if_pos (by simp; omega)]
      refine Ev.some_bind (Ev.some_bind (Ev.pos (by simp; omega) (Ev.some_bind ?_)))
      rw [forbidden_eq n (by omega) f _ _ hM q1]
      refine Ev.some_bind ?_
      rw [show (ints w).take i ++ [((leastF (upP n f w i) n : Nat) : Int)] = ints (w.take i ++ [leastF (upP n f w i) n]) by simp [ints]]
      have := impl_Next_l2 n hn f hr w hl D (w.length - (i + 1)) (w.take i ++ [leastF (upP n f w i) n]) (afterP n f (mskP n f w i) (leastF (upP n f w i) n)) (by simp; omega) (afterP_lt n f _ _) (afterP_open hr _ q1)
      exact Ev.val this (by simp)
    · have hno : ∀ c, c < n → upP n f w i c = false := fun c hc => by
        cases h : upP n f w i c with
        | false => rfl
        | true => exact absurd ⟨c, hc, h⟩ hex
      rw [mk_zero hno, nextR_miss n f w i hno, w64' (by omega)]
      exact Ev.pos (by simp) i1
theorem impl_Next_l0 (n : Nat) (hn : n ≤ 8) (f : Nat → Nat → Bool) (hr : ∀ a, a < n → f a a = true) (w : List Nat) (hl : w.length ≤ 100000) (hw : ∀ x ∈ w, x < n) (D : List Int) : ∀ (d i : Nat), i + d = w.length →
    Ev (fun k => impl_NextTrace.l0 k (mat n f) (ints w) (msks n f w i) ((mskP n f w i : Nat) : Int) (ints w) (w.length : Int) (i : Int) (n : Int) D) (nextR n f w w.length) := by
  intro d
  induction d with
  | zero =>
    intro i hi
    obtain rfl : i = w.length := by omega
    refine Ev.succ ?_
    simp only [impl_NextTrace.l0]
    rw [ints_length, w64' (show -9000000000000000000 ≤ (w.length : Int) - 1 ∧ (w.length : Int) - 1 ≤ 9000000000000000000 by omega)]
    exact Ev.neg (by omega) (impl_Next_l1 n hn f hr w hl hw D w.length (Nat.le_refl _))
  | succ d ih =>
    intro i hi
    have i1 := ih (i + 1) (by omega)
    rw [msks_succ, mskP_succ n f w i (by omega)] at i1
    refine Ev.succ ?_
    simp only [impl_NextTrace.l0]
    refine Ev.pos (by omega) (Ev.pos (by omega) (Ev.pos (by simp; omega) (Ev.pos (by rw [msks_length]; omega) ?_)))
    rw [rd_getD, forbidden_eq n (by omega) f _ _ (mskP_lt n f w i (by omega)) (getD_lt hw (by omega))]
    refine Ev.some_bind ?_
    rw [w64' (by omega)]
    exact i1
end Go.Proofs.YtcigmfmlgaiklaaDoor.PAll
