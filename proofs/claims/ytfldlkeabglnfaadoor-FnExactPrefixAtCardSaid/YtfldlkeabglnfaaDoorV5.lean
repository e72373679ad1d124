import Derived.Test.YtfldlkeabglnfaaDoorPAllx1
import Derived.Test.YtfldlkeabglnfaaDoorPAllx12
import Derived.Test.YtfldlkeabglnfaaDoorPAllx2
import Derived.Test.YtfldlkeabglnfaaDoorV0
import Derived.Test.YtfldlkeabglnfaaDoorV1
import Derived.Test.YtfldlkeabglnfaaDoorQBase
import Derived.Test.YtfldlkeabglnfaaDoorQMask
import Derived.Test.YtfldlkeabglnfaaDoorQMeet
import Derived.Test.YtfldlkeabglnfaaDoorQTab
import Derived.Test.YtfldlkeabglnfaaDoorQTrace
set_option linter.unusedVariables false
set_option linter.unusedSimpArgs false
namespace Go.Proofs.YtfldlkeabglnfaaDoor.PAll
open Go.RowKit Go.Proofs.YtfldlkeabglnfaaDoorW.PrintWords Go.Proofs.YtfldlkeabglnfaaDoorW.PrintMore Go.Proofs.YtfldlkeabglnfaaDoor.Q
theorem l04At_ev (w : List Nat) (hl : w.length ≤ 24) (M : Nat) (hM : M < 2 ^ 62) : Ev (fun k => spec_l04At.f k (ints w) (M : Int)) (ints (lettersP w M)) := by
  have loop : ∀ (d i : Nat), i + d = w.length → Ev (fun k => spec_l04At.l0 k (ints w) (M : Int) (ints (((List.range i).filter fun i => M.testBit i).map fun i => w.getD i 0)) (i : Int)) (ints (lettersP w M)) := by
    intro d
    induction d with
    | zero =>
      intro i hi
      obtain rfl : i = w.length := by omega
      refine Ev.succ ?_
      simp only [spec_l04At.l0]
      exact Ev.neg (by simp) (Ev.now _)
    | succ d ih =>
      intro i hi
      have i1 := ih (i + 1) (by omega)
      rw [pos_step] at i1
      have hlen : (((List.range i).filter fun i => M.testBit i).map fun i => w.getD i 0).length ≤ i := by
        rw [List.length_map]
        exact Nat.le_trans (List.length_filter_le _ _) (by simp)
      refine Ev.succ ?_
      simp only [spec_l04At.l0]
      refine Ev.pos (by simp; omega) ?_
      rw [l01Bit_eq M i hM (by omega), w64' (by omega)]
      refine Ev.some_bind (Ev.ite (fun h => ?_) (fun h => ?_))
      · refine Ev.pos (by omega) (Ev.pos (by rw [ints_length]; omega) ?_)
        rw [if_pos h, ints_append] at i1
        rw [rd_getD]
        exact i1
      · rw [if_neg h, List.append_nil] at i1
        exact i1
  simp only [spec_l04At.f]
  exact loop w.length 0 (by omega)
theorem l04Down_ev (n : Nat) (hn : n ≤ 24) (g : Nat → Nat → Bool) (M : Nat) (hM : M < 2 ^ n) : Ev (fun k => spec_l04Down.f k (mat n g) (M : Int)) (downP g n M) := by
  have h24 := pow_lt62 hn
  have loop : ∀ (d i : Nat), i + d = n → (∀ j, j < i → (M.testBit j || (List.range n).all fun k => !(g j k && M.testBit k)) = true) → Ev (fun k => spec_l04Down.l0 k (mat n g) (M : Int) (i : Int)) (downP g n M) := by
    intro d
    induction d with
    | zero =>
      intro i hi hb
      refine Ev.succ ?_
      simp only [spec_l04Down.l0]
      refine Ev.neg (by simp; omega) (Ev.const ?_)
      congr 1
      exact (List.all_eq_true.2 fun j hj => hb j (by have := List.mem_range.1 hj; omega)).symm
    | succ d ih =>
      intro i hi hb
      have next : (M.testBit i || (List.range n).all fun k => !(g i k && M.testBit k)) = true → Ev (fun k => spec_l04Down.l0 k (mat n g) (M : Int) ((i + 1 : Nat) : Int)) (downP g n M) := fun h => ih (i + 1) (by omega) (fun j hj => by
        by_cases e : j = i
        · subst e; exact h
        · exact hb j (by omega))
      have hrow := mk_lt n (g i)
      refine Ev.succ ?_
      simp only [spec_l04Down.l0]
      refine Ev.pos (by simp; omega) ?_
      rw [l01Bit_eq M i (by omega) (by omega), w64' (by omega)]
      refine Ev.some_bind (Ev.ite (fun h => ?_) (fun h => ?_))
      · exact next (by rw [h]; rfl)
      · refine Ev.pos (by omega) ?_
        rw [rd_mat n g i (by omega), b_and _ _ (by omega) (by omega)]
        by_cases c : (List.range n).all (fun k => !(g i k && M.testBit k)) = true
        · rw [(and_zero (g i) hM).2 c]
          exact Ev.pos rfl (next (by rw [c]; simp))
        · have c0 : ¬ (mk n (g i) &&& M = 0) := fun e => c ((and_zero (g i) hM).1 e)
          refine Ev.neg (by omega) (Ev.const ?_)
          congr 1
          symm
          cases e : downP g n M with
          | false => rfl
          | true =>
            have := List.all_eq_true.1 e i (List.mem_range.2 (by omega))
            rcases Bool.or_eq_true_iff.1 this with h1 | h1
            · exact absurd h1 h
            · exact absurd h1 c
  simp only [spec_l04Down.f]
  exact loop n 0 (by omega) (fun j hj => by omega)
theorem IsMask24_eq (n : Nat) (hn : n ≤ 24) (a : Int) : impl_IsMask.f a (n : Int) = some (decide (0 ≤ a ∧ a ≤ ((2 ^ n - 1 : Nat) : Int))) := by
  unfold impl_IsMask.f
  have hp := Nat.two_pow_pos n
  have h24 := pow_lt62 hn
  rw [inRange_eq]
  simp only [Option.bind_some]
  rw [if_pos (by simp; omega), one_eq n (by omega)]
  simp only [Option.bind_some, inRange_eq]
  rw [w64' (by omega), show ((2 ^ n : Nat) : Int) - 1 = ((2 ^ n - 1 : Nat) : Int) by omega]
theorem lettersAt_ev (l : List Int) (hl : l.length ≤ 24) (M : Nat) (hM : M < 2 ^ l.length) : Ev (fun k => impl_lettersAt.f k l (M : Int)) ((bitsOf M).map fun (i : Nat) => rd l (i : Int)) := by
  have h24 := pow_lt62 hl
  have hb : ∀ i ∈ bitsOf M, i < l.length := fun i hi => Classical.byContradiction fun h => by
    have := (mem_bitsOf (by have : (2 : Nat) ^ 62 < 2 ^ 64 := by decide
                            omega)).1 hi
    rw [bit_of_lt hM (by omega)] at this; cases this
  have h64 := bitsOf_length M
  have loop : ∀ (suf pre : List Nat), pre ++ suf = bitsOf M → Ev (fun k => impl_lettersAt.l0 k l (pre.map fun (i : Nat) => rd l (i : Int)) (intsOf M) ((intsOf M).length : Int) (pre.length : Int)) ((bitsOf M).map fun (i : Nat) => rd l (i : Int)) := by
    intro suf
    have hil : (intsOf M).length = (bitsOf M).length := by simp [intsOf]
    induction suf with
    | nil =>
      intro pre hp
      rw [List.append_nil] at hp
      refine Ev.succ ?_
      simp only [impl_lettersAt.l0]
      rw [hil, hp]
      exact Ev.neg (by omega) (Ev.now _)
    | cons b suf ih =>
      intro pre hp
      have i1 := ih (pre ++ [b]) (by simpa using hp)
      have hbl := hb b (by rw [← hp]; simp)
      have hlen : pre.length + suf.length + 1 = (bitsOf M).length := by rw [← hp]; simp; omega
      have rb : rd (intsOf M) (pre.length : Int) = (b : Int) := by
        have := rd_mid pre suf b
        rw [hp] at this
        exact this
      refine Ev.succ ?_
      simp only [impl_lettersAt.l0]
      refine Ev.pos (by omega) (Ev.pos (by omega) (Ev.pos (by omega) ?_))
      rw [rb]
      refine Ev.pos (by omega) (Ev.pos (by omega) (Ev.pos (by rw [List.length_map]; omega) ?_))
      rw [w64' (by omega)]
      simp only [List.map_append, List.map_cons, List.map_nil, List.length_append, List.length_cons, List.length_nil] at i1
      exact i1
  simp only [impl_lettersAt.f]
  exact Ev.bind (members_ev M (by omega)) (loop (bitsOf M) [] rfl)
theorem lettersAt_ints (w : List Nat) (hl : w.length ≤ 24) (M : Nat) (hM : M < 2 ^ w.length) : Ev (fun k => impl_lettersAt.f k (ints w) (M : Int)) (ints (lettersP w M)) := by
  refine Ev.val (lettersAt_ev (ints w) (by simpa using hl) M (by simpa using hM)) ?_
  rw [bitsOf_range hM (by omega)]
  unfold lettersP ints
  rw [List.map_map]
  exact List.map_congr_left fun i _ => rd_getD w i
theorem PrefixAt_l0 (n : Nat) (hn : n ≤ 24) (g : Nat → Nat → Bool) (M : Nat) (hM : M < 2 ^ n) (w : List Int) (a : Int) (D : List Int) (R : List Int × Int)
    (hR : Ev (fun k => (impl_Alphabet_ties.f a D).bind fun t649 => (impl_lettersAt.f k w (M : Int)).bind fun t652 => (impl_ties_normal.f k t649 t652).bind fun t655 => some (t655, 0)) R) :
    Ev (fun k => impl_PrefixAt.l0 k (M : Int) w ((bitsOf M).map fun (i : Nat) => rd (mat n fun a b => g b a) (i : Int)) (((bitsOf M).map fun (i : Nat) => rd (mat n fun a b => g b a) (i : Int)).length : Int) 0 a D) (if downP g n M = true then R else ([], 5)) := by
  have h24 := pow_lt62 hn
  have hb : ∀ i ∈ bitsOf M, i < n := fun i hi => Classical.byContradiction fun h => by
    have := (mem_bitsOf (by have : (2 : Nat) ^ 62 < 2 ^ 64 := by decide
                            omega)).1 hi
    rw [bit_of_lt hM (by omega)] at this; cases this
  have hbit : ∀ i, i ∈ bitsOf M ↔ M.testBit i = true := fun i => mem_bitsOf (by have : (2 : Nat) ^ 62 < 2 ^ 64 := by decide
                                                                                omega)
  have h64 := bitsOf_length M
  -- a position of the set, and what is below it
  let okB : Nat → Bool := fun i => (List.range n).all fun b => !(g b i && !M.testBit b)
  have hd : downP g n M = true ↔ ∀ i ∈ bitsOf M, okB i = true := by
    simp only [downP, okB, List.all_eq_true, List.mem_range, Bool.or_eq_true, Bool.not_eq_true', Bool.and_eq_false_iff]
    constructor
    · intro h i hi b hbn
      rcases h b hbn with h1 | h1
      · exact .inr (by rw [h1]; rfl)
      · rcases h1 i (hb i hi) with h2 | h2
        · exact .inl h2
        · rw [(hbit i).1 hi] at h2; cases h2
    · intro h i hin
      by_cases hi : M.testBit i = true
      · exact .inl hi
      · refine .inr fun k hk => ?_
        by_cases hkm : M.testBit k = true
        · rcases h k ((hbit k).2 hkm) i hin with h2 | h2
          · exact .inl h2
          · exact absurd (by simpa using h2) hi
        · exact .inr (by simpa using hkm)
  have loop : ∀ (suf pre : List Nat), pre ++ suf = bitsOf M → (∀ i ∈ pre, okB i = true) → Ev (fun k => impl_PrefixAt.l0 k (M : Int) w ((bitsOf M).map fun (i : Nat) => rd (mat n fun a b => g b a) (i : Int)) (((bitsOf M).map fun (i : Nat) => rd (mat n fun a b => g b a) (i : Int)).length : Int) (pre.length : Int) a D) (if downP g n M = true then R else ([], 5)) := by
    intro suf
    induction suf with
    | nil =>
      intro pre hp hok
      rw [List.append_nil] at hp
      rw [if_pos (hd.2 (by rw [← hp]; exact hok))]
      refine Ev.succ ?_
      simp only [impl_PrefixAt.l0]
      exact Ev.neg (by rw [List.length_map, hp]; omega) hR
    | cons b suf ih =>
      intro pre hp hok
      have hbm : b ∈ bitsOf M := by rw [← hp]; simp
      have hbl := hb b hbm
      have hlen : pre.length + suf.length + 1 = (bitsOf M).length := by rw [← hp]; simp; omega
      have rb : rd ((bitsOf M).map fun (i : Nat) => rd (mat n fun a b => g b a) (i : Int)) (pre.length : Int) = ((mk n (fun c => g c b) : Nat) : Int) := by
        rw [rd_lt _ _ (by rw [List.length_map]; omega), List.getElem_map]
        have : (bitsOf M)[pre.length]'(by omega) = b := by
          simp only [← hp]
          simp
        rw [this, rd_mat n _ b hbl]
      have hrow := mk_lt n (fun c => g c b)
      have ew : without (mk n fun c => g c b) M = mk n fun c => g c b && !M.testBit c := by
        rw [show without (mk n fun c => g c b) M = without (mk n fun c => g c b) (mk n fun k => M.testBit k) by rw [← eq_mk hM], mk_without hn]
      refine Ev.succ ?_
      simp only [impl_PrefixAt.l0]
      refine Ev.pos (by rw [List.length_map]; omega) (Ev.pos (by omega) (Ev.pos (by rw [List.length_map]; omega) ?_))
      rw [rb, b_andNot _ _ (by omega) (by omega), ew, w64' (by omega)]
      by_cases c : okB b = true
      · have hz : mk n (fun c => g c b && !M.testBit c) = 0 := mk_zero fun k hk => by
          have := List.all_eq_true.1 c k (List.mem_range.2 hk)
          cases e : (g k b && !M.testBit k) with
          | false => rfl
          | true => rw [e] at this; cases this
        rw [hz]
        have := ih (pre ++ [b]) (by simpa using hp) (fun i hi => (List.mem_append.1 hi).elim (hok i) (fun h => by rw [List.mem_singleton.1 h]; exact c))
        rw [show (pre ++ [b]).length = pre.length + 1 by simp] at this
        exact Ev.pos rfl this
      · have hz : mk n (fun c => g c b && !M.testBit c) ≠ 0 := by
          refine mk_ne_zero (Classical.byContradiction fun hn' => c (List.all_eq_true.2 fun k hk => ?_))
          cases e : (g k b && !M.testBit k) with
          | false => rfl
          | true => exact absurd ⟨k, List.mem_range.1 hk, e⟩ hn'
        rw [if_neg (fun h => c (hd.1 h b hbm))]
        exact Ev.neg (by omega) (Ev.now _)
  exact loop (bitsOf M) [] rfl (by simp)
end Go.Proofs.YtfldlkeabglnfaaDoor.PAll
