import Derived.Test.YtfnnnopbcdiibaaDoorPAllx24
import Derived.Test.YtfnnnopbcdiibaaDoorV0
import Derived.Test.YtfnnnopbcdiibaaDoorV1
import Derived.Test.YtfnnnopbcdiibaaDoorQBase
import Derived.Test.YtfnnnopbcdiibaaDoorQDraw
import Derived.Test.YtfnnnopbcdiibaaDoorQMask
import Derived.Test.YtfnnnopbcdiibaaDoorQMeet
import Derived.Test.YtfnnnopbcdiibaaDoorQRev
import Derived.Test.YtfnnnopbcdiibaaDoorQTrace
set_option linter.unusedVariables false
set_option linter.unusedSimpArgs false
namespace Go.Proofs.YtfnnnopbcdiibaaDoor.PAll
open Go.RowKit Go.Proofs.YtfnnnopbcdiibaaDoorW.PrintWords Go.Proofs.YtfnnnopbcdiibaaDoorW.PrintMore Go.Proofs.YtfnnnopbcdiibaaDoor.Q
theorem l02Step_ev (n : Nat) (hn : n ≤ 8) (f : Nat → Nat → Bool) (m : Nat) (hm : m < 2 ^ 24) : Ev (fun k => spec_l02Step.f k (n : Int) (mat n f) (m : Int)) (stepP n f m) := by
  have loop : ∀ (d a : Nat), a + d = n → (∀ i, i < a → (!m.testBit i || decide (mk n (f i) &&& m = 2 ^ i)) = true) → Ev (fun k => spec_l02Step.l0 k (m : Int) (a : Int) (n : Int) (mat n f)) (stepP n f m) := by
    intro d
    induction d with
    | zero =>
      intro a ha hp
      refine Ev.succ ?_
      simp only [spec_l02Step.l0]
      refine Ev.neg (by omega) (Ev.const ?_)
      congr 1
      symm
      exact List.all_eq_true.2 fun i hi => hp i (by have := List.mem_range.1 hi; omega)
    | succ d ih =>
      intro a ha hp
      have h1 := mk_lt n (f a)
      have h2 := pow24 (show n ≤ 24 by omega)
      have h3 : (2 : Nat) ^ 24 ≤ 2 ^ 62 := Nat.pow_le_pow_right (by decide) (by decide)
      refine Ev.succ ?_
      simp only [spec_l02Step.l0]
      refine Ev.pos (by omega) ?_
      rw [l01Bit_eq m a (by omega) (by omega)]
      refine Ev.some_bind (Ev.ite (fun c => ?_) (fun c => ?_))
      · refine Ev.pos (by omega) (Ev.pos (by simp; omega) ?_)
        rw [l01One_eq a (by omega), rd_mat n f a (by omega), b_and _ _ (by omega) (by omega)]
        refine Ev.some_bind (Ev.ite (fun g => ?_) (fun g => ?_))
        · rw [w64' (by omega)]
          refine ih (a + 1) (by omega) (fun i hi => ?_)
          by_cases e : i = a
          · subst e
            have : mk n (f i) &&& m = 2 ^ i := by omega
            simp [this]
          · exact hp i (by omega)
        · refine Ev.const ?_
          congr 1
          symm
          rw [← Bool.not_eq_true]
          intro h
          have := List.all_eq_true.1 h a (List.mem_range.2 (by omega))
          rw [c] at this
          simp only [Bool.not_true, Bool.false_or, decide_eq_true_eq] at this
          exact g (by rw [this])
      · rw [w64' (by omega)]
        refine ih (a + 1) (by omega) (fun i hi => ?_)
        by_cases e : i = a
        · subst e
          simp [c]
        · exact hp i (by omega)
  simp only [spec_l02Step.f]
  exact loop n 0 (by omega) (by intro i hi; omega)
theorem l02Steps_ev (n : Nat) (hn : n ≤ 8) (f : Nat → Nat → Bool) : Ev (fun k => spec_l02Steps.f k (n : Int) (mat n f)) (ints (stepsP n f)) := by
  have h24 := pow24 (show n ≤ 24 by omega)
  have hpos := Nat.two_pow_pos n
  have h8 : (2 : Nat) ^ n ≤ 2 ^ 8 := Nat.pow_le_pow_right (by decide) hn
  have loop : ∀ (d m : Nat), m + d = 2 ^ n → Ev (fun k => spec_l02Steps.l0 k (ints ((List.range m).filter (stepP n f))) (m : Int) (n : Int) (mat n f)) (ints (stepsP n f)) := by
    intro d
    induction d with
    | zero =>
      intro m hm
      obtain rfl : m = 2 ^ n := by omega
      refine Ev.succ ?_
      simp only [spec_l02Steps.l0, l01Full_eq n (show n ≤ 61 by omega)]
      exact Ev.some_bind (Ev.neg (by omega) (Ev.now _))
    | succ d ih =>
      intro m hm
      have := ih (m + 1) (by omega)
      rw [List.range_succ, List.filter_append] at this
      refine Ev.succ ?_
      simp only [spec_l02Steps.l0, l01Full_eq n (show n ≤ 61 by omega)]
      refine Ev.some_bind (Ev.pos (by omega) (Ev.bind (l02Step_ev n hn f m (by omega)) ?_))
      rw [w64' (by omega)]
      refine Ev.ite (fun c => ?_) (fun c => ?_)
      · have hl := List.length_filter_le (stepP n f) (List.range m)
        simp only [List.length_range] at hl
        refine Ev.pos (by simp; omega) ?_
        rw [List.filter_cons_of_pos c, List.filter_nil, ints_append] at this
        exact this
      · rw [List.filter_cons_of_neg c, List.filter_nil, List.append_nil] at this
        exact this
  simp only [spec_l02Steps.f]
  exact loop (2 ^ n) 0 (by omega)
theorem l01Bits_ev (m : Nat) (hm : m < 2 ^ 24) : Ev (fun k => spec_l01Bits.f k (m : Int)) ((pcP m : Nat) : Int) := by
  have loop : ∀ (N m : Nat) (acc : Nat), m ≤ N → acc + m ≤ 100000000 → Ev (fun k => spec_l01Bits.l0 k (m : Int) (acc : Int)) ((acc + pcP m : Nat) : Int) := by
    intro N
    induction N with
    | zero =>
      intro m acc h1 h3
      obtain rfl : m = 0 := by omega
      refine Ev.succ ?_
      simp only [spec_l01Bits.l0]
      exact Ev.neg (by omega) (Ev.const (by rw [pcP_zero]; rfl))
    | succ N ih =>
      intro m acc h1 h3
      by_cases h0 : m = 0
      · subst h0
        refine Ev.succ ?_
        simp only [spec_l01Bits.l0]
        exact Ev.neg (by omega) (Ev.const (by rw [pcP_zero]; rfl))
      · have e1 : Int.tdiv (m : Int) 2 = ((m / 2 : Nat) : Int) := by rw [Int.tdiv_eq_ediv_of_nonneg (by omega)]; omega
        have e2 : Int.tmod (m : Int) 2 = ((m % 2 : Nat) : Int) := by rw [Int.tmod_eq_emod_of_nonneg (by omega)]; omega
        refine Ev.succ ?_
        simp only [spec_l01Bits.l0]
        refine Ev.pos (by omega) ?_
        rw [e1, e2, w64' (by omega), w64' (by omega)]
        have := ih (m / 2) (acc + m % 2) (by omega) (by omega)
        rw [pcP_pos h0, show acc + (m % 2 + pcP (m / 2)) = acc + m % 2 + pcP (m / 2) by omega]
        exact this
  simp only [spec_l01Bits.f]
  exact Ev.val (loop m m 0 (Nat.le_refl _) (by omega)) (by simp)
theorem rd_snoc0 (l : List Int) (i : Nat) : rd (l ++ [0]) (i : Int) = rd l (i : Int) := by
  rw [rd_nat, rd_nat, List.getD_eq_getElem?_getD, List.getD_eq_getElem?_getD]
  rcases Nat.lt_trichotomy i l.length with h | h | h
  · rw [List.getElem?_append_left h]
  · rw [h, List.getElem?_append_right (Nat.le_refl _), List.getElem?_eq_none (Nat.le_refl _)]; simp
  · rw [List.getElem?_append_right (by omega), List.getElem?_eq_none (by simp; omega), List.getElem?_eq_none (by omega)]
theorem l06Clique_l0 (ms : List Nat) (hl : ms.length ≤ 10000) (hms : ∀ m ∈ ms, m < 2 ^ 24) : ∀ (suf pre : List Nat) (out : List Int), pre ++ suf = ms → out.length ≤ 100 → (∀ i : Nat, -(3 * (pre.length : Int)) ≤ rd out (i : Int) ∧ rd out (i : Int) ≤ 3 * (pre.length : Int)) →
    Ev (fun k => spec_l06Clique.l0 k out (ints ms) (pre.length : Int)) (suf.foldl (fun out m => addK out (pcP m)) out) := by
  intro suf
  induction suf with
  | nil =>
    intro pre out hp ho hb
    refine Ev.succ ?_
    simp only [spec_l06Clique.l0]
    exact Ev.neg (by simp [← hp]) (Ev.const rfl)
  | cons m suf ih =>
    intro pre out hp ho hb
    have hlen : pre.length + suf.length + 1 = ms.length := by rw [← hp]; simp; omega
    have hm : m < 2 ^ 24 := hms m (by simp [← hp])
    have hpc := pcP_le 24 m hm
    refine Ev.succ ?_
    simp only [spec_l06Clique.l0]
    refine Ev.pos (by simp; omega) (Ev.pos (by omega) ?_)
    have r1 : rd (ints ms) (pre.length : Int) = (m : Int) := by rw [← hp]; exact rd_mid pre suf m
    rw [r1]
    refine Ev.bind (l01Bits_ev m hm) ?_
    rw [List.foldl_cons]
    -- the zeros behind it
    have inner : ∀ (e z : Nat), z + e = pcP m + 1 - out.length → Ev (fun k => spec_l06Clique.l1 k (out ++ List.replicate z 0) (ints ms) (pre.length : Int) ((pcP m : Nat) : Int)) (suf.foldl (fun out m => addK out (pcP m)) (addK out (pcP m))) := by
      intro e
      induction e with
      | zero =>
        intro z hz
        have hz' : z = pcP m + 1 - out.length := by omega
        refine Ev.succ ?_
        simp only [spec_l06Clique.l1]
        refine Ev.neg (by simp; omega) (Ev.pos (by omega) (Ev.pos (by simp; omega) ?_))
        have r2 : rd (out ++ List.replicate z 0) ((pcP m : Nat) : Int) = rd out ((pcP m : Nat) : Int) := by
          clear hz hz'
          induction z with
          | zero => simp
          | succ z ihz => rw [List.replicate_succ', ← List.append_assoc, rd_snoc0, ihz]
        have hb1 := hb (pcP m)
        have e2 : Int.tmod ((pcP m : Nat) : Int) 2 = ((pcP m % 2 : Nat) : Int) := by rw [Int.tmod_eq_emod_of_nonneg (by omega)]; omega
        rw [r2, e2, w64' (x := rd out ((pcP m : Nat) : Int) + 1) (by omega), w64' (x := 2 * ((pcP m % 2 : Nat) : Int)) (by omega), w64' (x := rd out ((pcP m : Nat) : Int) + 1 - 2 * ((pcP m % 2 : Nat) : Int)) (by omega), w64' (x := (pre.length : Int) + 1) (by omega), Int.toNat_natCast]
        have := ih (pre ++ [m]) (addK out (pcP m)) (by simpa using hp) (by rw [addK_length]; omega) (fun i => by
          have hb2 := hb i
          unfold addK
          rw [rd_nat, List.getD_eq_getElem?_getD]
          by_cases hi : pcP m = i
          · subst hi
            rw [List.getElem?_set_self (by simp; omega)]
            simp only [Option.getD_some, List.length_append, List.length_cons, List.length_nil]
            omega
          · rw [List.getElem?_set_ne hi]
            have : (out ++ List.replicate (pcP m + 1 - out.length) 0)[i]?.getD 0 = rd out (i : Int) := by
              generalize pcP m + 1 - out.length = y
              rw [← List.getD_eq_getElem?_getD, ← rd_nat]
              induction y with
              | zero => simp
              | succ y ihy => rw [List.replicate_succ', ← List.append_assoc, rd_snoc0, ihy]
            rw [this]
            simp only [List.length_append, List.length_cons, List.length_nil]
            omega)
        rw [show (pre ++ [m]).length = pre.length + 1 by simp] at this
        unfold addK at this ⊢
        rw [← hz'] at this ⊢
        exact this
      | succ e ihe =>
        intro z hz
        refine Ev.succ ?_
        simp only [spec_l06Clique.l1]
        refine Ev.pos (by simp; omega) (Ev.pos (by simp; omega) ?_)
        have := ihe (z + 1) (by omega)
        rw [List.replicate_succ', ← List.append_assoc] at this
        exact this
    have := inner (pcP m + 1 - out.length) 0 (by omega)
    simpa using this
theorem l06Clique_ev (n : Nat) (hn : n ≤ 8) (f : Nat → Nat → Bool) : Ev (fun k => spec_l06Clique.f k (n : Int) (mat n f)) (cliqueP (stepsP n f)) := by
  have h8 : (2 : Nat) ^ n ≤ 2 ^ 8 := Nat.pow_le_pow_right (by decide) hn
  have hl := List.length_filter_le (stepP n f) (List.range (2 ^ n))
  rw [List.length_range] at hl
  simp only [spec_l06Clique.f]
  refine Ev.bind (l02Steps_ev n hn f) ?_
  exact l06Clique_l0 (stepsP n f) (by unfold stepsP; omega) (fun m hm => by have := List.mem_range.1 (List.mem_filter.1 hm).1; omega) (stepsP n f) [] [] rfl (by simp) (fun i => by rw [rd_nat]; simp)
theorem cliqueP_length (ms : List Nat) (hms : ∀ m ∈ ms, m < 2 ^ 24) : (cliqueP ms).length ≤ 100 := by
  have : ∀ (ms : List Nat) (out : List Int), (∀ m ∈ ms, m < 2 ^ 24) → out.length ≤ 100 → (ms.foldl (fun out m => addK out (pcP m)) out).length ≤ 100 := by
    intro ms
    induction ms with
    | nil => intro out _ h; exact h
    | cons m ms ih =>
      intro out hm h
      rw [List.foldl_cons]
      refine ih _ (fun x hx => hm x (by simp [hx])) ?_
      rw [addK_length]
      have := pcP_le 24 m (hm m (by simp))
      omega
  exact this ms [] hms (by simp)
end Go.Proofs.YtfnnnopbcdiibaaDoor.PAll
