import Derived.Test.YtjdekliancabgaaDoorPAllx1
import Derived.Test.YtjdekliancabgaaDoorPAllx2
import Derived.Test.YtjdekliancabgaaDoorPAllx3
import Derived.Test.YtjdekliancabgaaDoorPAllx6
import Derived.Test.YtjdekliancabgaaDoorPAllx7
import Derived.Test.YtjdekliancabgaaDoorPAllx8
import Derived.Test.YtjdekliancabgaaDoorPAllx9
import Derived.Test.YtjdekliancabgaaDoorV0
import Derived.Test.YtjdekliancabgaaDoorV1
import Derived.Test.YtjdekliancabgaaDoorQBase
import Derived.Test.YtjdekliancabgaaDoorQCF
import Derived.Test.YtjdekliancabgaaDoorQDraw
import Derived.Test.YtjdekliancabgaaDoorQMask
import Derived.Test.YtjdekliancabgaaDoorQMeet
import Derived.Test.YtjdekliancabgaaDoorQProd
import Derived.Test.YtjdekliancabgaaDoorQRev
import Derived.Test.YtjdekliancabgaaDoorQTrace
set_option linter.unusedVariables false
set_option linter.unusedSimpArgs false
namespace Go.Proofs.YtjdekliancabgaaDoor.PAll
open Go.RowKit Go.Proofs.YtjdekliancabgaaDoorW.PrintWords Go.Proofs.YtjdekliancabgaaDoorW.PrintMore Go.Proofs.YtjdekliancabgaaDoor.Q
theorem likeInts_ev (x : List Int) (hx : x.length ≤ 17592186044416) : Ev (fun k => laws_likeInts.f k x x) true := by
  have loop : ∀ (d i : Nat), i + d = x.length → Ev (fun k => laws_likeInts.l0 k x x (i : Int)) true := by
    intro d
    induction d with
    | zero =>
      intro i hi
      refine Ev.succ ?_
      simp only [laws_likeInts.l0]
      exact Ev.neg (by omega) (Ev.now _)
    | succ d ih =>
      intro i hi
      refine Ev.succ ?_
      simp only [laws_likeInts.l0]
      refine Ev.pos (by omega) (Ev.pos (by omega) (Ev.pos (by omega) (Ev.pos trivial ?_)))
      rw [w64' (by omega)]
      exact ih (i + 1) (by omega)
  simp only [laws_likeInts.f]
  exact Ev.pos trivial (loop x.length 0 (by omega))
theorem allLetters_eq (n : Nat) (hn : n ≤ 24) (D : List Int) : impl_allLetters.f (n : Int) D = some ((mk n (fun _ => true) : Nat) : Int) := by
  have h24 := pow_lt62 hn
  have hp := Nat.two_pow_pos n
  unfold impl_allLetters.f
  rw [one_eq n (by omega)]
  simp only [Option.bind_some]
  rw [w64' (by omega), ← mk_full]
  congr 1
  omega
theorem complement_ev (n : Nat) (hn : n ≤ 24) (f : Nat → Nat → Bool) : Ev (fun k => impl_complement.f k (n : Int) (mat n f)) ((n : Int), mat n fun a b => !f a b || decide (a = b)) := by
  have h62 := pow_lt62 hn
  have loop : ∀ (d i : Nat), i + d = n → Ev (fun k => impl_complement.l0 k (mat n f) (n : Int) (i : Int) (n : Int) (mat n f) (n : Int) ((List.range i).map fun a => ((mk n (fun b => !f a b || decide (a = b)) : Nat) : Int))) ((n : Int), mat n fun a b => !f a b || decide (a = b)) := by
    intro d
    induction d with
    | zero =>
      intro i hi
      obtain rfl : i = n := by omega
      refine Ev.succ ?_
      simp only [impl_complement.l0]
      exact Ev.neg (by omega) (Ev.now _)
    | succ d ih =>
      intro i hi
      have hin : i < n := by omega
      have hp2 : (2 : Nat) ^ i < 2 ^ n := Nat.pow_lt_pow_right (by decide) hin
      have := ih (i + 1) (by omega)
      refine Ev.succ ?_
      simp only [impl_complement.l0]
      refine Ev.pos (by omega) (Ev.pos (by omega) (Ev.pos (by rw [mat_length]; omega) ?_))
      rw [allLetters_eq n hn]
      refine Ev.some_bind ?_
      rw [one_eq i (by omega)]
      refine Ev.some_bind (Ev.pos (by simp; omega) ?_)
      have h1 := mk_lt n (f i)
      have h2 := mk_lt n fun _ => true
      have h3 := without_le (mk n fun _ => true) (mk n (f i))
      rw [rd_mat n _ i hin, b_andNot _ _ (by omega) (by omega), b_or _ _ (by omega) (by omega), w64' (by omega)]
      have e : without (mk n fun _ => true) (mk n (f i)) ||| 2 ^ i = mk n fun b => !f i b || decide (i = b) := bits_ext fun j => by
        rw [Nat.testBit_or, testBit_without _ _ _ (by omega) (by omega), testBit_mk, testBit_mk, testBit_mk, testBit_one]
        by_cases q : i = j
        · subst q
          simp [hin]
        · simp only [q, decide_false, Bool.or_false]
          cases decide (j < n) <;> cases f i j <;> rfl
      rw [e]
      rw [List.range_succ, List.map_append] at this
      exact this
  simp only [impl_complement.f]
  rw [mat_length]
  exact loop n 0 (by omega)
theorem stepsOf_ev (n : Nat) (hn : n ≤ 8) (f : Nat → Nat → Bool) (hs : ∀ a b, f a b = f b a) (hr : ∀ a, a < n → f a a = true) : Ev (fun k => impl_stepsOf.f k (n : Int) (mat n f)) (ints (stepsP n f)) := by
  have h8 : (2 : Nat) ^ n ≤ 2 ^ 8 := Nat.pow_le_pow_right (by decide) hn
  have h24 : n ≤ 24 := by omega
  have hpos := Nat.two_pow_pos n
  simp only [impl_stepsOf.f]
  refine Ev.bind (complement_ev n h24 f) ?_
  simp only [impl_cliques.f]
  obtain ⟨L, he, hn1, hm⟩ := grow_ev n h24 (fun a b => (!f b a || decide (b = a)) && ((!f a b || decide (a = b)) && !decide (b = a))) (2 ^ n - 1) (2 ^ n - 1) (Nat.le_refl _) (by omega) 0 hpos (fun i h => by rw [Nat.zero_testBit] at h; exact absurd h (by simp))
  have hmem : ∀ C, C ∈ 0 :: L ↔ C ∈ stepsP n f := fun C => by
    simp only [stepsP, List.mem_filter, List.mem_range, List.mem_cons, hm, stepP_iff n f hr]
    constructor
    · rintro (rfl | ⟨S, _, h1, h2, rfl⟩)
      · exact ⟨hpos, fun a b _ _ h => by rw [Nat.zero_testBit] at h; exact absurd h (by simp)⟩
      · rw [Nat.zero_or]
        refine ⟨lt_of_bits fun i hi => ?_, fun a b ha hb hSa hSb hab => ?_⟩
        · cases c : S.testBit i
          · rfl
          · have := h1 i c
            rw [testBit_full] at this
            have := of_decide_eq_true this
            omega
        · rcases Nat.lt_or_gt_of_ne hab with q | q
          · have := h2 a b q hSa hSb
            simp only [Bool.and_eq_true, Bool.or_eq_true, Bool.not_eq_true', decide_eq_true_eq, decide_eq_false_iff_not] at this
            rcases this.2.1 with z | z
            · exact z
            · exact absurd z hab
          · have := h2 b a q hSb hSa
            simp only [Bool.and_eq_true, Bool.or_eq_true, Bool.not_eq_true', decide_eq_true_eq, decide_eq_false_iff_not] at this
            rcases this.1 with z | z
            · exact z
            · exact absurd z hab
    · rintro ⟨h1, h2⟩
      by_cases z : C = 0
      · exact .inl z
      · refine .inr ⟨C, z, fun i hi => ?_, fun a b hab ha hb => ?_, by rw [Nat.zero_or]⟩
        · rw [testBit_full]
          refine decide_eq_true ?_
          by_cases q : i < n
          · exact q
          · rw [bit_of_lt h1 (by omega)] at hi
            exact absurd hi (by simp)
        · have hlt : ∀ i, C.testBit i = true → i < n := fun i hi => by
            by_cases q : i < n
            · exact q
            · rw [bit_of_lt h1 (by omega)] at hi
              exact absurd hi (by simp)
          have e1 := h2 a b (hlt a ha) (hlt b hb) ha hb (by omega)
          have e2 : f b a = false := (hs b a).trans e1
          simp [e1, e2, show ¬ b = a by omega]
  have hnd : (0 :: L).Nodup := by
    refine List.nodup_cons.2 ⟨fun h => ?_, hn1⟩
    obtain ⟨S, h0, _, _, h3⟩ := (hm 0).1 h
    rw [Nat.zero_or] at h3
    exact h0 h3.symm
  have hsort := sort_eq hnd (List.Pairwise.filter (stepP n f) List.pairwise_lt_range) hmem
  have hlen : L.length + 1 ≤ 2 ^ n := by
    have h1 := congrArg List.length hsort
    rw [List.length_mergeSort, ints_length, ints_length] at h1
    have h2 := List.length_filter_le (stepP n f) (List.range (2 ^ n))
    rw [List.length_range] at h2
    rw [List.length_cons] at h1
    omega
  refine Ev.bind (f := fun k (b : List Int × Int) => some b.1) (a := (ints (stepsP n f), 0)) ?_ (Ev.now _)
  refine Ev.bind (mutual_ev n h24 _) ?_
  simp only [impl_length_int64.f]
  refine Ev.some_bind ?_
  rw [mat_length, one_eq n (by omega)]
  refine Ev.some_bind ?_
  rw [w64' (by omega), show ((2 ^ n : Nat) : Int) - 1 = ((2 ^ n - 1 : Nat) : Int) by omega]
  refine Ev.bind he (Ev.pos (by rw [ints_length]; omega) ?_)
  rw [ints_cons] at hsort
  rw [show (0 : Int) = ((0 : Nat) : Int) from rfl, hsort]
  exact Ev.now _
theorem size_eq (m : Nat) (hm : m < 256) : impl_size.f (m : Int) = some ((pcP m : Nat) : Int) := by
  have h1 : ∀ m : Nat, m < 256 → pcP m = m % 2 + (m / 2 % 2 + (m / 4 % 2 + (m / 8 % 2 + (m / 16 % 2 + (m / 32 % 2 + (m / 64 % 2 + m / 128 % 2)))))) := fun m hm => by
    rw [pcP_step m, pcP_step (m / 2), pcP_step (m / 2 / 2), pcP_step (m / 2 / 2 / 2), pcP_step (m / 2 / 2 / 2 / 2), pcP_step (m / 2 / 2 / 2 / 2 / 2), pcP_step (m / 2 / 2 / 2 / 2 / 2 / 2), pcP_step (m / 2 / 2 / 2 / 2 / 2 / 2 / 2)]
    rw [show m / 2 / 2 / 2 / 2 / 2 / 2 / 2 / 2 = 0 by omega, pcP_zero]
    omega
  rw [h1 m hm]
  have h2 : ((List.range 256).all fun m => impl_size.f (m : Int) == some ((m % 2 + (m / 2 % 2 + (m / 4 % 2 + (m / 8 % 2 + (m / 16 % 2 + (m / 32 % 2 + (m / 64 % 2 + m / 128 % 2)))))) : Nat) : Int)) = true := by kernel_rfl
  exact beq_iff_eq.1 (List.all_eq_true.1 h2 m (List.mem_range.2 hm))
theorem rd_snoc1 (l : List Int) (i : Nat) : rd (l ++ [0]) (i : Int) = rd l (i : Int) := by
  rw [rd_nat, rd_nat, List.getD_eq_getElem?_getD, List.getD_eq_getElem?_getD]
  rcases Nat.lt_trichotomy i l.length with h | h | h
  · rw [List.getElem?_append_left h]
  · rw [h, List.getElem?_append_right (Nat.le_refl _), List.getElem?_eq_none (Nat.le_refl _)]; simp
  · rw [List.getElem?_append_right (by omega), List.getElem?_eq_none (by simp; omega), List.getElem?_eq_none (by omega)]
theorem rd_zeros (l : List Int) (y i : Nat) : rd (l ++ List.replicate y 0) (i : Int) = rd l (i : Int) := by
  induction y with
  | zero => simp
  | succ y ihy => rw [List.replicate_succ', ← List.append_assoc, rd_snoc1, ihy]
theorem addK_bd (out : List Int) (B : Int) (hB : 0 ≤ B) (m : Nat) (hb : ∀ i : Nat, -B ≤ rd out (i : Int) ∧ rd out (i : Int) ≤ B) : ∀ i : Nat, -(B + 1) ≤ rd (addK out m) (i : Int) ∧ rd (addK out m) (i : Int) ≤ B + 1 := fun i => by
  have hb1 := hb i
  have hb2 := hb m
  unfold addK
  rw [rd_nat, List.getD_eq_getElem?_getD]
  by_cases hi : m = i
  · subst hi
    rw [List.getElem?_set_self (by simp; omega)]
    simp only [Option.getD_some]
    omega
  · rw [List.getElem?_set_ne hi, ← List.getD_eq_getElem?_getD, ← rd_nat, rd_zeros]
    omega
theorem poly_l0 (ms : List Nat) (hl : ms.length ≤ 256) (hms : ∀ m ∈ ms, m < 256) : ∀ (suf pre : List Nat) (out : List Int), pre ++ suf = ms → out.length ≤ 100 → (∀ i : Nat, -(pre.length : Int) ≤ rd out (i : Int) ∧ rd out (i : Int) ≤ (pre.length : Int)) →
    Ev (fun k => impl_cliquePolynomial.l0 k out (ints ms) (ms.length : Int) (pre.length : Int)) (suf.foldl (fun out m => addK out (pcP m)) out) ∧ ∀ i : Nat, -(ms.length : Int) ≤ rd (suf.foldl (fun out m => addK out (pcP m)) out) (i : Int) ∧ rd (suf.foldl (fun out m => addK out (pcP m)) out) (i : Int) ≤ (ms.length : Int) := by
  intro suf
  induction suf with
  | nil =>
    intro pre out hp ho hb
    rw [List.append_nil] at hp
    subst hp
    refine ⟨Ev.succ ?_, hb⟩
    simp only [impl_cliquePolynomial.l0]
    exact Ev.neg (by omega) (Ev.now _)
  | cons m suf ih =>
    intro pre out hp ho hb
    have hlen : pre.length + suf.length + 1 = ms.length := by rw [← hp]; simp; omega
    have hm : m < 256 := hms m (by simp [← hp])
    have hpc := pcP_le 8 m hm
    obtain ⟨h1, h2⟩ := ih (pre ++ [m]) (addK out (pcP m)) (by simpa using hp) (by rw [addK_length]; omega) (fun i => by
      have := addK_bd out (pre.length : Int) (by omega) (pcP m) hb i
      simp only [List.length_append, List.length_cons, List.length_nil]
      omega)
    rw [List.foldl_cons]
    refine ⟨Ev.succ ?_, h2⟩
    simp only [impl_cliquePolynomial.l0]
    refine Ev.pos (by omega) (Ev.pos (by omega) (Ev.pos (by rw [ints_length]; omega) ?_))
    have r1 : rd (ints ms) (pre.length : Int) = (m : Int) := by rw [← hp]; exact rd_mid pre suf m
    rw [r1]
    have inner : ∀ (e z : Nat), z + e = pcP m + 1 - out.length → Ev (fun k => impl_cliquePolynomial.l1 k (out ++ List.replicate z 0) (m : Int) (ints ms) (ms.length : Int) (pre.length : Int)) (suf.foldl (fun out m => addK out (pcP m)) (addK out (pcP m))) := by
      intro e
      induction e with
      | zero =>
        intro z hz
        have hz' : z = pcP m + 1 - out.length := by omega
        refine Ev.succ ?_
        simp only [impl_cliquePolynomial.l1, impl_length_int64.f, size_eq m hm]
        refine Ev.some_bind (Ev.some_bind (Ev.neg (by simp; omega) (Ev.some_bind (Ev.pos (by omega) (Ev.pos (by simp; omega) (Ev.some_bind ?_))))))
        have hb1 := hb (pcP m)
        have e2 : Int.tmod ((pcP m : Nat) : Int) 2 = ((pcP m % 2 : Nat) : Int) := by rw [Int.tmod_eq_emod_of_nonneg (by omega)]; omega
        rw [rd_zeros, e2, w64' (x := 2 * ((pcP m % 2 : Nat) : Int)) (by omega), w64' (x := 1 - 2 * ((pcP m % 2 : Nat) : Int)) (by omega), w64' (x := rd out ((pcP m : Nat) : Int) + (1 - 2 * ((pcP m % 2 : Nat) : Int))) (by omega), w64' (x := (pre.length : Int) + 1) (by omega), Int.toNat_natCast]
        rw [show (pre ++ [m]).length = pre.length + 1 by simp] at h1
        unfold addK at h1 ⊢
        rw [← hz'] at h1 ⊢
        rw [show rd out ((pcP m : Nat) : Int) + (1 - 2 * ((pcP m % 2 : Nat) : Int)) = rd out ((pcP m : Nat) : Int) + 1 - 2 * ((pcP m % 2 : Nat) : Int) by omega]
        exact h1
      | succ e ihe =>
        intro z hz
        refine Ev.succ ?_
        simp only [impl_cliquePolynomial.l1, impl_length_int64.f, size_eq m hm]
        refine Ev.some_bind (Ev.some_bind (Ev.pos (by simp; omega) (Ev.pos (by simp; omega) ?_)))
        have := ihe (z + 1) (by omega)
        rw [List.replicate_succ', ← List.append_assoc] at this
        exact this
    have := inner (pcP m + 1 - out.length) 0 (by omega)
    simpa using this
theorem poly_ev (n : Nat) (hn : n ≤ 8) (f : Nat → Nat → Bool) (hs : ∀ a b, f a b = f b a) (hr : ∀ a, a < n → f a a = true) : Ev (fun k => impl_cliquePolynomial.f k (n : Int) (mat n f)) (cliqueP (stepsP n f)) ∧ ∀ x ∈ cliqueP (stepsP n f), -1000 ≤ x ∧ x ≤ 1000 := by
  have h8 : (2 : Nat) ^ n ≤ 2 ^ 8 := Nat.pow_le_pow_right (by decide) hn
  have hl := List.length_filter_le (stepP n f) (List.range (2 ^ n))
  rw [List.length_range] at hl
  obtain ⟨h1, h2⟩ := poly_l0 (stepsP n f) (by unfold stepsP; omega) (fun m hm => by have := List.mem_range.1 (List.mem_filter.1 hm).1; omega) (stepsP n f) [] [] rfl (by simp) (fun i => by rw [rd_nat]; simp)
  refine ⟨?_, fun x hx => ?_⟩
  · simp only [impl_cliquePolynomial.f]
    refine Ev.bind (stepsOf_ev n hn f hs hr) ?_
    rw [ints_length]
    exact h1
  · obtain ⟨i, hi, rfl⟩ := List.getElem_of_mem hx
    have h3 := h2 i
    have e : rd (cliqueP (stepsP n f)) (i : Int) = (cliqueP (stepsP n f))[i] := by
      rw [rd_nat, List.getD_eq_getElem?_getD, List.getElem?_eq_getElem hi]
      rfl
    have h4 : (stepsP n f).length ≤ 256 := by unfold stepsP; omega
    rw [← e]
    show _ ≤ rd (List.foldl _ [] _) _ ∧ rd (List.foldl _ [] _) _ ≤ _
    omega
theorem tie_eq (n : Nat) (hn : n ≤ 24) (f : Nat → Nat → Bool) (a b : Nat) (ha : a < n) (hb : b < n) (x : Int) :
    impl_Alphabet_tie.f x (mat n f) (a : Int) (b : Int) = some (mat n fun i k => (f i k || (decide (i = a) && decide (k = b))) || (decide (i = b) && decide (k = a))) := by
  unfold impl_Alphabet_tie.f
  have p1 := pow24 hn
  have p2 : (2 : Nat) ^ a ≤ 2 ^ 24 := pow24 (by omega)
  have p3 : (2 : Nat) ^ b ≤ 2 ^ 24 := pow24 (by omega)
  have h1 := mk_lt n (f a)
  have h2 := mk_lt n (fun k => f b k || (decide (b = a) && decide (k = b)))
  rw [if_pos (by omega), if_pos (by simp; omega), show impl_one_Btie.f (b : Int) = impl_one.f (b : Int) from rfl, show impl_one_Btie.f (a : Int) = impl_one.f (a : Int) from rfl, one_eq a (by omega), one_eq b (by omega), rd_mat n f a ha]
  simp only [Option.bind_some]
  rw [b_or _ _ (by omega) (by omega), Int.toNat_natCast, mat_set n f a b ha hb]
  rw [if_pos (by omega), if_pos (by simp; omega), rd_mat n _ b hb, b_or _ _ (by omega) (by omega), Int.toNat_natCast, mat_set n _ b a hb ha]
/-- what a round of the free product has tied -/
def crossP (m a q : Nat) (i k : Nat) : Bool := (decide (i < m) && decide (m ≤ k)) && (decide (i < a) || (decide (i = a) && decide (k < m + q)))
theorem cross_ties (m n : Nat) (hN : m + n ≤ 8) (f g : Nat → Nat → Bool) (l1 : List Int) (y1 : List Int) : ∀ (d a : Nat), a + d = m →
    Ev (fun k => impl_product.l1 k (m : Int) (m : Int) (a : Int) (n : Int) y1 ((m + n : Nat) : Int) (mat (m + n) fun i k => sideF m f g false i k || (crossP m a 0 i k || crossP m a 0 k i))) (((m + n : Nat) : Int), mat (m + n) (sideF m f g true), 0) := by
  intro d
  induction d with
  | zero =>
    intro a ha
    refine Ev.succ ?_
    simp only [impl_product.l1]
    refine Ev.neg (by omega) ?_
    rw [mat_congr (g := sideF m f g true) (fun i k hi hk => by
      unfold crossP sideF
      by_cases h1 : i < m <;> by_cases h2 : k < m
      · simp [h1, h2, show ¬ m ≤ i by omega, show ¬ m ≤ k by omega]
      · simp [h1, h2, show m ≤ k by omega, show i < a by omega]
      · simp [h1, h2, show m ≤ i by omega, show k < a by omega]
      · simp [h1, h2])]
    exact Ev.now _
  | succ d ih =>
    intro a ha
    have inner : ∀ (e q : Nat), q + e = n → Ev (fun k => impl_product.l2 k (m : Int) (a : Int) (m : Int) (a : Int) (n : Int) (q : Int) (n : Int) y1 ((m + n : Nat) : Int) (mat (m + n) fun i k => sideF m f g false i k || (crossP m a q i k || crossP m a q k i))) (((m + n : Nat) : Int), mat (m + n) (sideF m f g true), 0) := by
      intro e
      induction e with
      | zero =>
        intro q hq
        refine Ev.succ ?_
        simp only [impl_product.l2]
        refine Ev.neg (by omega) ?_
        rw [w64' (by omega), show (a : Int) + 1 = ((a + 1 : Nat) : Int) by omega]
        have := ih (a + 1) (by omega)
        rw [mat_congr (g := fun i k => sideF m f g false i k || (crossP m (a + 1) 0 i k || crossP m (a + 1) 0 k i)) (fun i k hi hk => by
          have c : ∀ i k, k < m + n → crossP m a q i k = crossP m (a + 1) 0 i k := fun i k hk => by
            unfold crossP
            rw [Bool.eq_iff_iff]
            simp only [Bool.and_eq_true, Bool.or_eq_true, decide_eq_true_eq]
            omega
          rw [c i k hk, c k i hi])]
        exact this
      | succ e ih2 =>
        intro q hq
        refine Ev.succ ?_
        simp only [impl_product.l2]
        refine Ev.pos (by omega) ?_
        rw [w64' (show -9000000000000000000 ≤ ((m : Int) + (q : Int)) ∧ ((m : Int) + (q : Int)) ≤ 9000000000000000000 by omega), show (m : Int) + (q : Int) = ((m + q : Nat) : Int) by omega, tie_eq (m + n) (by omega) _ a (m + q) (by omega) (by omega)]
        refine Ev.some_bind ?_
        rw [w64' (by omega), show (q : Int) + 1 = ((q + 1 : Nat) : Int) by omega]
        have := ih2 (q + 1) (by omega)
        rw [mat_congr (g := fun i k => sideF m f g false i k || (crossP m a (q + 1) i k || crossP m a (q + 1) k i)) (fun i k hi hk => by
          have c : ∀ i k, crossP m a (q + 1) i k = (crossP m a q i k || (decide (i = a) && decide (k = m + q))) := fun i k => by
            unfold crossP
            rw [Bool.eq_iff_iff]
            simp only [Bool.and_eq_true, Bool.or_eq_true, decide_eq_true_eq]
            omega
          rw [c i k, c k i]
          cases sideF m f g false i k <;> cases crossP m a q i k <;> cases crossP m a q k i <;> by_cases e1 : i = a <;> by_cases e2 : k = m + q <;> by_cases e3 : k = a <;> by_cases e4 : i = m + q <;> simp [e1, e2, e3, e4])]
        exact this
    refine Ev.succ ?_
    simp only [impl_product.l1]
    exact Ev.pos (by omega) (inner n 0 (by omega))
theorem side_rows (m n : Nat) (f g : Nat → Nat → Bool) : mat (m + n) (sideF m f g false) = mat m f ++ (List.range n).map fun b => ((2 ^ m * mk n (g b) : Nat) : Int) := by
  unfold mat
  rw [List.range_add, List.map_append, List.map_map]
  congr 1
  · refine List.map_congr_left (fun a ha => ?_)
    have ha := List.mem_range.1 ha
    congr 1
    refine bits_ext fun i => ?_
    rw [testBit_mk, testBit_mk]
    unfold sideF
    by_cases h : i < m
    · simp [ha, h, show i < m + n by omega]
    · simp [ha, h]
  · refine List.map_congr_left (fun b hb => ?_)
    have hb := List.mem_range.1 hb
    simp only [Function.comp]
    congr 1
    refine bits_ext fun i => ?_
    rw [testBit_mk, Nat.testBit_two_pow_mul, testBit_mk]
    unfold sideF
    have nb : ¬ (m + b < m) := by omega
    by_cases h : i < m
    · simp [h, nb, show ¬ m ≤ i by omega]
    · have e : (i < m + n) ↔ (i - m < n) := by omega
      simp [h, nb, show m ≤ i by omega, e]
theorem product_l0 (m n : Nat) (hN : m + n ≤ 8) (f g : Nat → Nat → Bool) (o : Bool) : ∀ (d b : Nat), b + d = n →
    Ev (fun k => impl_product.l0 k o (m : Int) (mat n g) (n : Int) (b : Int) (n : Int) (mat n g) ((m + n : Nat) : Int) (mat m f ++ (List.range b).map fun b => ((2 ^ m * mk n (g b) : Nat) : Int))) (((m + n : Nat) : Int), mat (m + n) (sideF m f g o), 0) := by
  intro d
  induction d with
  | zero =>
    intro b hb
    obtain rfl : b = n := by omega
    refine Ev.succ ?_
    simp only [impl_product.l0]
    refine Ev.neg (by omega) ?_
    rw [← side_rows]
    cases o with
    | false => exact Ev.neg (by decide) (Ev.now _)
    | true =>
      refine Ev.pos rfl ?_
      have := cross_ties m b hN f g [] (mat b g) m 0 (by omega)
      rw [mat_congr (f := fun i k => sideF m f g false i k || (crossP m 0 0 i k || crossP m 0 0 k i)) (g := sideF m f g false) (fun i k hi hk => by
        have c : ∀ i k, crossP m 0 0 i k = false := fun i k => by
          unfold crossP
          rw [Bool.eq_false_iff]
          intro h
          simp only [Bool.and_eq_true, Bool.or_eq_true, decide_eq_true_eq] at h
          omega
        rw [c, c]
        simp)] at this
      exact this
  | succ d ih =>
    intro b hb
    have hk := mk_lt n (g b)
    have h8 : (2 : Nat) ^ n ≤ 2 ^ 8 := Nat.pow_le_pow_right (by decide) (by omega)
    refine Ev.succ ?_
    simp only [impl_product.l0]
    refine Ev.pos (by omega) (Ev.pos (by omega) (Ev.pos (by simp; omega) (Ev.pos (by omega) (Ev.pos (by simp; omega) ?_))))
    rw [rd_mat n g b (by omega), shl_nat _ m (by omega) (by omega), w64' (by omega), show (b : Int) + 1 = ((b + 1 : Nat) : Int) by omega, List.append_assoc]
    have := ih (b + 1) (by omega)
    rw [List.range_succ, List.map_append] at this
    exact this
/-- what both come to: no alphabet, too many letters, or the product -/
def prodR (n1 : Int) (D1 : List Int) (n2 : Int) (D2 : List Int) (o : Bool) (r : Int × List Int × Int) : Prop :=
  (r = (0, [], 1)) ∨ (r = (0, [], 3)) ∨ ∃ m n f g, n1 = ((m : Nat) : Int) ∧ D1 = mat m f ∧ n2 = ((n : Nat) : Int) ∧ D2 = mat n g ∧ m + n ≤ 8 ∧ (∀ a b, f a b = f b a) ∧ (∀ a, a < m → f a a = true) ∧ (∀ a b, g a b = g b a) ∧ (∀ a, a < n → g a a = true) ∧ r = (((m + n : Nat) : Int), mat (m + n) (sideF m f g o), 0)
theorem product_ok {m n : Nat} (hN : m + n ≤ 8) {f g : Nat → Nat → Bool} (hA1 : Alpha (m : Int) (mat m f)) (hA2 : Alpha (n : Int) (mat n g)) (o : Bool) :
    Ev (fun k => impl_product.f k (m : Int) (mat m f) (n : Int) (mat n g) o) (((m + n : Nat) : Int), mat (m + n) (sideF m f g o), 0) := by
  have i1 := IsAlphabet_ev (m : Int) (mat m f)
  have i2 := IsAlphabet_ev (n : Int) (mat n g)
  rw [decide_eq_true hA1] at i1
  rw [decide_eq_true hA2] at i2
  simp only [impl_product.f]
  refine Ev.bind i1 (Ev.pos rfl (Ev.bind i2 (Ev.succ ?_)))
  simp only [impl_product.j0]
  refine Ev.neg (by decide) ?_
  rw [w64' (by omega)]
  refine Ev.neg (by omega) ?_
  rw [show slices_Clone_int64_int64.f (mat m f) = some (mat m f) from by unfold slices_Clone_int64_int64.f; rw [if_pos (by simp; omega)], mat_length, show (m : Int) + (n : Int) = ((m + n : Nat) : Int) by omega]
  refine Ev.some_bind ?_
  have := product_l0 m n hN f g o n 0 (by omega)
  simpa using this
/-- is (i, k) ahead of (a, b) -/
def ahead (a b i k : Nat) : Bool := decide (i < a) || (decide (i = a) && decide (k < b))
def besF (S : Nat → Nat → Bool) (a b i k : Nat) : Bool := decide (i = k) || (S i k && (ahead a b i k || ahead a b k i))
theorem beside_l0 (m n : Nat) (hN : m + n ≤ 8) (f g : Nat → Nat → Bool) (hf : ∀ a b, f a b = f b a) (hg : ∀ a b, g a b = g b a) (hf1 : ∀ a, a < m → f a a = true) (hg1 : ∀ a, a < n → g a a = true) : ∀ (d a : Nat), a + d = m + n →
    Ev (fun k => spec_l02Beside.l0 k false (a : Int) (m : Int) (mat m f) (n : Int) (mat n g) ((m + n : Nat) : Int) (mat (m + n) (besF (sideF m f g false) a 0))) (((m + n : Nat) : Int), mat (m + n) (sideF m f g false), 0) := by
  have S2 := sideF_symm (m := m) false hf hg
  have S1 := sideF_refl (m := m) (n := n) (f := f) (g := g) false hf1 hg1
  intro d
  induction d with
  | zero =>
    intro a ha
    refine Ev.succ ?_
    simp only [spec_l02Beside.l0]
    refine Ev.neg (by omega) ?_
    rw [mat_congr (g := sideF m f g false) (fun i k hi hk => by
      unfold besF ahead
      by_cases e : i = k
      · subst e; simp [S1 i hi]
      · simp [e, show i < a by omega])]
    exact Ev.now _
  | succ d ih =>
    intro a ha
    have inner : ∀ (e b : Nat), b + e = m + n → Ev (fun k => spec_l02Beside.l1 k false (a : Int) (b : Int) (m : Int) (mat m f) (n : Int) (mat n g) ((m + n : Nat) : Int) (mat (m + n) (besF (sideF m f g false) a b))) (((m + n : Nat) : Int), mat (m + n) (sideF m f g false), 0) := by
      intro e
      induction e with
      | zero =>
        intro b hb
        refine Ev.succ ?_
        simp only [spec_l02Beside.l1]
        refine Ev.neg (by omega) ?_
        rw [w64' (by omega), show (a : Int) + 1 = ((a + 1 : Nat) : Int) by omega]
        have := ih (a + 1) (by omega)
        rw [mat_congr (f := besF (sideF m f g false) a b) (g := besF (sideF m f g false) (a + 1) 0) (fun i k hi hk => by
          have c : ∀ i k, k < m + n → ahead a b i k = ahead (a + 1) 0 i k := fun i k hk => by
            unfold ahead
            rw [Bool.eq_iff_iff]
            simp only [Bool.and_eq_true, Bool.or_eq_true, decide_eq_true_eq]
            omega
          unfold besF
          rw [c i k hk, c k i hi])]
        exact this
      | succ e ih2 =>
        intro b hb
        have nxt := ih2 (b + 1) (by omega)
        have c : ∀ i k, ahead a (b + 1) i k = (ahead a b i k || (decide (i = a) && decide (k = b))) := fun i k => by
          unfold ahead
          rw [Bool.eq_iff_iff]
          simp only [Bool.and_eq_true, Bool.or_eq_true, decide_eq_true_eq]
          omega
        have yes : sideF m f g false a b = true → Ev (fun k => (spec_l02Join.f ((m + n : Nat) : Int) (mat (m + n) (besF (sideF m f g false) a b)) (a : Int) (b : Int)).bind fun t => spec_l02Beside.l1 k false (a : Int) (wrap64 ((b : Int) + 1)) (m : Int) (mat m f) (n : Int) (mat n g) ((m + n : Nat) : Int) t) (((m + n : Nat) : Int), mat (m + n) (sideF m f g false), 0) := fun h => by
          rw [l02Join_eq (m + n) (by omega) _ a b (by omega) (by omega)]
          refine Ev.some_bind ?_
          rw [w64' (by omega), show (b : Int) + 1 = ((b + 1 : Nat) : Int) by omega]
          rw [mat_congr (f := fun i k => (besF (sideF m f g false) a b i k || (decide (i = a) && decide (k = b))) || (decide (i = b) && decide (k = a))) (g := besF (sideF m f g false) a (b + 1)) (fun i k hi hk => by
            have h' : sideF m f g false b a = true := by rw [S2]; exact h
            unfold besF
            rw [c i k, c k i]
            by_cases e1 : i = a ∧ k = b
            · obtain ⟨rfl, rfl⟩ := e1; simp [h]
            · by_cases e2 : i = b ∧ k = a
              · obtain ⟨rfl, rfl⟩ := e2; simp [h']
              · have q1 : (decide (i = a) && decide (k = b)) = false := by rw [Bool.eq_false_iff]; intro z; simp only [Bool.and_eq_true, decide_eq_true_eq] at z; exact e1 z
                have q2 : (decide (i = b) && decide (k = a)) = false := by rw [Bool.eq_false_iff]; intro z; simp only [Bool.and_eq_true, decide_eq_true_eq] at z; exact e2 z
                rw [q1, q2, show (decide (k = a) && decide (i = b)) = (decide (i = b) && decide (k = a)) from Bool.and_comm _ _, q2]
                simp)]
          exact nxt
        have no : sideF m f g false a b = false → Ev (fun k => spec_l02Beside.l1 k false (a : Int) (wrap64 ((b : Int) + 1)) (m : Int) (mat m f) (n : Int) (mat n g) ((m + n : Nat) : Int) (mat (m + n) (besF (sideF m f g false) a b))) (((m + n : Nat) : Int), mat (m + n) (sideF m f g false), 0) := fun h => by
          rw [w64' (by omega), show (b : Int) + 1 = ((b + 1 : Nat) : Int) by omega]
          rw [mat_congr (f := besF (sideF m f g false) a b) (g := besF (sideF m f g false) a (b + 1)) (fun i k hi hk => by
            have h' : sideF m f g false b a = false := by rw [S2]; exact h
            unfold besF
            rw [c i k, c k i]
            by_cases e1 : i = a ∧ k = b
            · obtain ⟨rfl, rfl⟩ := e1; simp [h]
            · by_cases e2 : i = b ∧ k = a
              · obtain ⟨rfl, rfl⟩ := e2; simp [h']
              · have q1 : (decide (i = a) && decide (k = b)) = false := by rw [Bool.eq_false_iff]; intro z; simp only [Bool.and_eq_true, decide_eq_true_eq] at z; exact e1 z
                have q2 : (decide (k = a) && decide (i = b)) = false := by rw [Bool.eq_false_iff]; intro z; simp only [Bool.and_eq_true, decide_eq_true_eq] at z; exact e2 ⟨z.2, z.1⟩
                rw [q1, q2, Bool.or_false, Bool.or_false])]
          exact nxt
        refine Ev.succ ?_
        simp only [spec_l02Beside.l1]
        refine Ev.pos (by omega) ?_
        by_cases g1 : a < m
        · by_cases g2 : b < m
          · refine Ev.pos (by omega) ?_
            rw [decide_eq_true (show (b : Int) < (m : Int) by omega)]
            refine Ev.succ ?_
            simp only [spec_l02Beside.j3]
            refine Ev.pos trivial ?_
            rw [l02Dep_eq m (by omega) f _ a b g1 g2]
            refine Ev.some_bind ?_
            have sf : sideF m f g false a b = f a b := by unfold sideF; rw [if_pos g1, if_pos g2]
            exact Ev.ite (fun h => yes (sf.trans h)) (fun h => no (sf.trans (Bool.eq_false_iff.2 h)))
          · refine Ev.pos (by omega) ?_
            rw [decide_eq_false (show ¬ (b : Int) < (m : Int) by omega)]
            refine Ev.succ ?_
            simp only [spec_l02Beside.j3]
            refine Ev.neg (by decide) (Ev.neg (by omega) (Ev.succ ?_))
            simp only [spec_l02Beside.j4]
            refine Ev.neg (by decide) (Ev.neg (by decide) (no ?_))
            unfold sideF; rw [if_pos g1, if_neg g2]
        · refine Ev.neg (by omega) (Ev.succ ?_)
          simp only [spec_l02Beside.j3]
          refine Ev.neg (by decide) (Ev.pos (by omega) ?_)
          by_cases g2 : b < m
          · rw [decide_eq_false (show ¬ (b : Int) ≥ (m : Int) by omega)]
            refine Ev.succ ?_
            simp only [spec_l02Beside.j4]
            refine Ev.neg (by decide) (Ev.neg (by decide) (no ?_))
            unfold sideF; rw [if_neg g1, if_pos g2]
          · rw [decide_eq_true (show (b : Int) ≥ (m : Int) by omega)]
            refine Ev.succ ?_
            simp only [spec_l02Beside.j4]
            refine Ev.pos trivial ?_
            rw [w64' (show -9000000000000000000 ≤ ((a : Int) - (m : Int)) ∧ ((a : Int) - (m : Int)) ≤ 9000000000000000000 by omega), w64' (show -9000000000000000000 ≤ ((b : Int) - (m : Int)) ∧ ((b : Int) - (m : Int)) ≤ 9000000000000000000 by omega), show (a : Int) - (m : Int) = ((a - m : Nat) : Int) by omega, show (b : Int) - (m : Int) = ((b - m : Nat) : Int) by omega]
            rw [l02Dep_eq n (by omega) g _ (a - m) (b - m) (by omega) (by omega)]
            refine Ev.some_bind ?_
            have sf : sideF m f g false a b = g (a - m) (b - m) := by unfold sideF; rw [if_neg g1, if_neg g2]
            exact Ev.ite (fun h => yes (sf.trans h)) (fun h => no (sf.trans (Bool.eq_false_iff.2 h)))
    refine Ev.succ ?_
    simp only [spec_l02Beside.l0]
    exact Ev.pos (by omega) (inner (m + n) 0 (by omega))
theorem DirectProduct_both (n1 : Int) (D1 : List Int) (n2 : Int) (D2 : List Int) : ∃ r : Int × List Int × Int, r.2.1.length ≤ 100 ∧ Ev (fun k => spec_DirectProduct.f k n1 D1 n2 D2) r ∧ Ev (fun k => impl_DirectProduct.f k n1 D1 n2 D2) r ∧
    (r.2.2 = 0 → ∃ m n f g, n1 = ((m : Nat) : Int) ∧ D1 = mat m f ∧ n2 = ((n : Nat) : Int) ∧ D2 = mat n g ∧ m + n ≤ 8 ∧ (∀ a b, f a b = f b a) ∧ (∀ a, a < m → f a a = true) ∧ (∀ a b, g a b = g b a) ∧ (∀ a, a < n → g a a = true) ∧ Alpha n1 D1 ∧ Alpha n2 D2 ∧ r = (((m + n : Nat) : Int), mat (m + n) (sideF m f g false), 0)) := by
  have s1 := l02Is_ev n1 D1
  have s2 := l02Is_ev n2 D2
  have i1 := IsAlphabet_ev n1 D1
  have i2 := IsAlphabet_ev n2 D2
  have bs : Ev (fun k => spec_l02Beside.j0 k false true n1 D1 n2 D2) (0, [], 1) := by
    refine Ev.succ ?_
    simp only [spec_l02Beside.j0]
    exact Ev.pos trivial (Ev.now _)
  have bi : Ev (fun k => impl_product.j0 k false true n1 D1 n2 D2) (0, [], 1) := by
    refine Ev.succ ?_
    simp only [impl_product.j0]
    exact Ev.pos trivial (Ev.now _)
  by_cases hA1 : Alpha n1 D1
  · by_cases hA2 : Alpha n2 D2
    · rw [decide_eq_true hA1] at s1 i1
      rw [decide_eq_true hA2] at s2 i2
      have hA1' := hA1
      have hA2' := hA2
      obtain ⟨m, f, rfl, rfl, hm, hf, hf1⟩ := hA1.form
      obtain ⟨n, g, rfl, rfl, hn, hg, hg1⟩ := hA2.form
      by_cases hN : m + n ≤ 8
      · refine ⟨(((m + n : Nat) : Int), mat (m + n) (sideF m f g false), 0), by simp; omega, ?_, ?_, fun _ => ⟨m, n, f, g, rfl, rfl, rfl, rfl, hN, hf, hf1, hg, hg1, hA1', hA2', rfl⟩⟩
        · have P : Ev (fun k => spec_l02Beside.f k (m : Int) (mat m f) (n : Int) (mat n g) false) (((m + n : Nat) : Int), mat (m + n) (sideF m f g false), 0) := by
            simp only [spec_l02Beside.f]
            refine Ev.bind s1 (Ev.pos rfl (Ev.bind s2 (Ev.succ ?_)))
            simp only [spec_l02Beside.j0]
            refine Ev.neg (by decide) ?_
            rw [w64' (by omega)]
            refine Ev.neg (by omega) ?_
            rw [show (m : Int) + (n : Int) = ((m + n : Nat) : Int) by omega]
            refine Ev.bind (l02Free_ev (m + n) (by omega)) ?_
            have := beside_l0 m n hN f g hf hg hf1 hg1 (m + n) 0 (by omega)
            rw [mat_congr (f := besF (sideF m f g false) 0 0) (g := fun a b => decide (a = b)) (fun i k hi hk => by
              unfold besF ahead
              simp)] at this
            exact this
          simp only [spec_DirectProduct.f]
          exact Ev.bind P (Ev.now _)
        · simp only [impl_DirectProduct.f]
          exact Ev.bind (product_ok hN hA1' hA2' false) (Ev.now _)
      · refine ⟨(0, [], 3), by simp, ?_, ?_, fun h => by cases h⟩
        · have P : Ev (fun k => spec_l02Beside.f k (m : Int) (mat m f) (n : Int) (mat n g) false) (0, [], 3) := by
            simp only [spec_l02Beside.f]
            refine Ev.bind s1 (Ev.pos rfl (Ev.bind s2 (Ev.succ ?_)))
            simp only [spec_l02Beside.j0]
            refine Ev.neg (by decide) ?_
            rw [w64' (by omega)]
            exact Ev.pos (by omega) (Ev.now _)
          simp only [spec_DirectProduct.f]
          exact Ev.bind P (Ev.now _)
        · have P : Ev (fun k => impl_product.f k (m : Int) (mat m f) (n : Int) (mat n g) false) (0, [], 3) := by
            simp only [impl_product.f]
            refine Ev.bind i1 (Ev.pos rfl (Ev.bind i2 (Ev.succ ?_)))
            simp only [impl_product.j0]
            refine Ev.neg (by decide) ?_
            rw [w64' (by omega)]
            exact Ev.pos (by omega) (Ev.now _)
          simp only [impl_DirectProduct.f]
          exact Ev.bind P (Ev.now _)
    · rw [decide_eq_true hA1] at s1 i1
      rw [decide_eq_false hA2] at s2 i2
      refine ⟨(0, [], 1), by simp, ?_, ?_, fun h => by cases h⟩
      · simp only [spec_DirectProduct.f, spec_l02Beside.f]
        exact Ev.bind (Ev.bind s1 (Ev.pos rfl (Ev.bind s2 bs))) (Ev.now _)
      · simp only [impl_DirectProduct.f, impl_product.f]
        exact Ev.bind (Ev.bind i1 (Ev.pos rfl (Ev.bind i2 bi))) (Ev.now _)
  · rw [decide_eq_false hA1] at s1 i1
    refine ⟨(0, [], 1), by simp, ?_, ?_, fun h => by cases h⟩
    · simp only [spec_DirectProduct.f, spec_l02Beside.f]
      exact Ev.bind (Ev.bind s1 (Ev.neg (by decide) bs)) (Ev.now _)
    · simp only [impl_DirectProduct.f, impl_product.f]
      exact Ev.bind (Ev.bind i1 (Ev.neg (by decide) bi)) (Ev.now _)
end Go.Proofs.YtjdekliancabgaaDoor.PAll
