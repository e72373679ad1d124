import Derived.Test.YtemdfjdmokbcoaaDoorQBase
import Derived.Test.YtemdfjdmokbcoaaDoorQConj
import Derived.Test.YtemdfjdmokbcoaaDoorQFoata
import Derived.Test.YtemdfjdmokbcoaaDoorQMap
import Derived.Test.YtemdfjdmokbcoaaDoorQMask
import Derived.Test.YtemdfjdmokbcoaaDoorQMeet
import Derived.Test.YtemdfjdmokbcoaaDoorQOrder
import Derived.Test.YtemdfjdmokbcoaaDoorQRev
import Derived.Test.YtemdfjdmokbcoaaDoorQTab
import Derived.Test.YtemdfjdmokbcoaaDoorQTrace
set_option linter.unusedVariables false
set_option linter.unusedSimpArgs false
namespace Go.Proofs.YtemdfjdmokbcoaaDoor.PAll
open Go.RowKit Go.Proofs.YtemdfjdmokbcoaaDoorW.PrintWords Go.Proofs.YtemdfjdmokbcoaaDoorW.PrintMore Go.Proofs.YtemdfjdmokbcoaaDoor.Q
/-- from place i on: the numbers c, c + 1, .. -/
def marks (x : List Int) (i : Nat) (c : Int) : List Int := x.take i ++ (List.range (x.length - i)).map fun (j : Nat) => c + (j : Int)
theorem marks_length (x : List Int) (i : Nat) (c : Int) (h : i ≤ x.length) : (marks x i c).length = x.length := by simp [marks]; omega
theorem marks_set (x : List Int) (i : Nat) (c : Int) (h : i < x.length) : marks (x.set i c) (i + 1) (c + 1) = marks x i c := by
  unfold marks
  rw [List.length_set, show x.length - i = (x.length - (i + 1)) + 1 by omega, List.range_succ_eq_map]
  rw [List.take_succ_eq_append_getElem (by simpa using h)]
  simp only [List.getElem_set_self, List.map_cons, List.map_map, List.append_assoc, List.cons_append, List.nil_append]
  congr 1
  · rw [List.take_set_of_le (by omega)]
  · congr 1
    · simp
    · apply List.map_congr_left
      intro j _
      simp [Function.comp]
      omega

/-- n letters, each element of D a mask of them, symmetric and reflexive -/
def Alpha (n : Int) (D : List Int) : Prop :=
  (0 ≤ n ∧ n ≤ 8) ∧ (D.length : Int) = n ∧ (∀ x ∈ D, 0 ≤ x ∧ x < ((2 ^ D.length : Nat) : Int)) ∧ ∀ a, a < D.length → bitR D a a = true ∧ ∀ b, b < D.length → bitR D a b = bitR D b a
instance (n : Int) (D : List Int) : Decidable (Alpha n D) := by unfold Alpha; infer_instance
/-- a valid alphabet, as its number of letters and its dependence -/
theorem Alpha.form {n : Int} {D : List Int} (h : Alpha n D) : ∃ (m : Nat) (f : Nat → Nat → Bool), n = (m : Int) ∧ D = mat m f ∧ m ≤ 8 ∧ (∀ a b, f a b = f b a) ∧ ∀ a, a < m → f a a = true := by
  obtain ⟨h1, h2, h3, h4⟩ := h
  refine ⟨D.length, fun a b => decide (a < D.length ∧ b < D.length) && (bitR D a b), h2.symm, ?_, by omega, fun a b => ?_, fun a ha => ?_⟩
  · exact (eq_mat D h3).trans (mat_congr fun i k hi hk => by simp [hi, hk])
  · by_cases ha : a < D.length <;> by_cases hb : b < D.length <;> simp [ha, hb]
    exact (h4 a ha).2 b hb
  · simp [ha, (h4 a ha).1]
theorem bitR_mat (m : Nat) (f : Nat → Nat → Bool) (a b : Nat) (ha : a < m) (hb : b < m) : bitR (mat m f) a b = f a b := by
  unfold bitR
  rw [rd_mat m f a ha, Int.toNat_natCast, testBit_mk]
  simp [hb]
theorem pow24 {m : Nat} (h : m ≤ 24) : (2 : Nat) ^ m ≤ 2 ^ 24 := Nat.pow_le_pow_right (by decide) h

def Word (n : Int) (w : List Int) : Prop := w.length ≤ 24 ∧ ∀ x ∈ w, 0 ≤ x ∧ x ≤ n - 1
instance (n : Int) (w : List Int) : Decidable (Word n w) := by unfold Word; infer_instance
theorem Word.form {n : Nat} {w : List Int} (h : Word (n : Int) w) : ∃ u : List Nat, w = ints u ∧ u.length ≤ 24 ∧ ∀ x ∈ u, x < n := by
  refine ⟨w.map Int.toNat, ?_, by simpa using h.1, fun x hx => ?_⟩
  · unfold ints
    rw [List.map_map]
    conv => lhs; rw [← List.map_id w]
    apply List.map_congr_left
    intro x hx
    have := h.2 x hx
    simp only [Function.comp, id]
    omega
  · obtain ⟨y, hy, rfl⟩ := List.mem_map.mp hx
    have := h.2 y hy
    omega

theorem getD_lt {w : List Nat} {n i : Nat} (hw : ∀ x ∈ w, x < n) (hi : i < w.length) : w.getD i 0 < n := by
  rw [List.getD_eq_getElem?_getD, List.getElem?_eq_getElem hi]; exact hw _ (List.getElem_mem hi)
theorem rd_getD (w : List Nat) (i : Nat) : rd (ints w) (i : Int) = ((w.getD i 0 : Nat) : Int) := by
  by_cases h : i < w.length
  · rw [rd_ints w i h]; simp [List.getD_eq_getElem?_getD, h]
  · rw [rd_nat]; simp [ints, List.getD_eq_getElem?_getD, h]
theorem ints_set (l : List Nat) (i v : Nat) : (ints l).set i (v : Int) = ints (l.set i v) := by simp [ints, List.map_set]
theorem rd_mid (pre suf : List Nat) (b : Nat) : rd (ints (pre ++ b :: suf)) (pre.length : Int) = (b : Int) := by
  rw [rd_ints _ _ (by simp)]
  simp
theorem ints_eraseIdx (w : List Nat) (i : Nat) : (ints w).eraseIdx i = ints (w.eraseIdx i) := by
  rw [List.eraseIdx_eq_take_drop_succ, List.eraseIdx_eq_take_drop_succ]
  simp [ints]
theorem erase_idx {w : List Nat} {a : Nat} (h : a ∈ w) : w.eraseIdx (w.idxOf a) = w.erase a := (List.erase_eq_eraseIdx_of_idxOf rfl).symm
theorem idxOf_lt {w : List Nat} {a : Nat} (h : a ∈ w) : w.idxOf a < w.length := List.idxOf_lt_length_iff.2 h
instance (f : Nat → Nat → Bool) (u v : List Nat) : Decidable (TrEq f u v) := by unfold TrEq; infer_instance
/-- the index of a first letter, or -1 -/
def fIdx (f : Nat → Nat → Bool) (w : List Nat) (a : Nat) : Int := if isFirst f w a = true then ((w.idxOf a : Nat) : Int) else -1
def cutR (f : Nat → Nat → Bool) (u v : List Nat) : List Int × Bool := match cutP f u v with
  | some r => (ints r, true)
  | none => ([], false)
theorem mem_mid {n : Nat} {pre suf : List Nat} {b : Nat} (h : ∀ x ∈ pre ++ b :: suf, x < n) : b < n := h b (by simp)
theorem idxOf_tail {a b : Nat} (l : List Nat) (h : ¬ b = a) : (b :: l).idxOf a = l.idxOf a + 1 := by
  rw [List.idxOf_cons, show (b == a) = false by simpa using h]
  rfl
theorem ctz_mk {n : Nat} (hn : n ≤ 24) {p : Nat → Bool} (h : ∃ a, a < n ∧ p a = true) : Lib.ctz 64 (mk n p) = leastF p n := by
  have hlt : mk n p < 2 ^ 64 := Nat.lt_of_lt_of_le (mk_lt n p) (Nat.pow_le_pow_right (by decide) (by omega))
  have h0 : mk n p ≠ 0 := by
    obtain ⟨a, ha, hp⟩ := h
    intro e
    have := testBit_mk n p a
    rw [e] at this
    simp [ha, hp] at this
  obtain ⟨h1, h2, h3, h4⟩ := lowest _ h0 hlt
  rw [testBit_mk] at h1
  simp only [Bool.and_eq_true, decide_eq_true_eq] at h1
  refine (leastF_unique h1.1 h1.2 fun i hi => ?_).symm
  have := h2 i hi
  rw [testBit_mk] at this
  simpa [show i < n by omega] using this
theorem mk_or (n : Nat) (p q : Nat → Bool) : mk n p ||| mk n q = mk n fun a => p a || q a := bits_ext fun i => by
  rw [Nat.testBit_or, testBit_mk, testBit_mk, testBit_mk]
  by_cases hi : i < n <;> simp [hi]
theorem mk_or_one (n : Nat) (p : Nat → Bool) (x : Nat) (hx : x < n) : mk n p ||| 2 ^ x = mk n fun a => p a || decide (a = x) := bits_ext fun i => by
  rw [Nat.testBit_or, testBit_mk, testBit_mk, testBit_one]
  by_cases e : x = i
  · subst e; simp [hx]
  · simp [e, show ¬ i = x from fun h => e h.symm]
theorem mat_row (n : Nat) (f : Nat → Nat → Bool) (a : Nat) (ha : a < n) (p : Nat → Bool) : (mat n f).set a ((mk n p : Nat) : Int) = mat n fun i k => if i = a then p k else f i k := by
  apply List.ext_getElem
  · simp
  · intro q h1 h2
    have hq : q < n := by simpa using h1
    rw [List.getElem_set]
    by_cases e : a = q
    · subst e
      rw [if_pos rfl]
      simp [mat]
    · rw [if_neg e]
      simp only [mat, List.getElem_map, List.getElem_range]
      congr 1
      exact mk_congr fun i _ => by rw [if_neg (fun h => e h.symm)]
theorem mk62 {n : Nat} (hn : n ≤ 24) (p : Nat → Bool) : mk n p < 2 ^ 62 := Nat.lt_of_lt_of_le (mk_lt n p) (Nat.pow_le_pow_right (by decide) (by omega))
theorem two62 {n : Nat} (hn : n ≤ 24) : (2 : Nat) ^ n < 2 ^ 62 := Nat.lt_of_le_of_lt (pow24 hn) (by decide)
theorem pow_lt62 {n : Nat} (hn : n ≤ 24) : (2 : Nat) ^ n ≤ 2 ^ 24 ∧ (2 : Nat) ^ 24 < 2 ^ 62 := ⟨pow24 hn, by decide⟩
theorem mk_full (n : Nat) : 2 ^ n - 1 = mk n fun _ => true := bits_ext fun i => by rw [testBit_full, testBit_mk]; simp
theorem mk_without {n : Nat} (hn : n ≤ 24) (p q : Nat → Bool) : without (mk n p) (mk n q) = mk n fun a => p a && !q a := bits_ext fun i => by
  rw [testBit_without _ _ _ (mk62 hn _) (mk62 hn _), testBit_mk, testBit_mk, testBit_mk]
  by_cases hi : i < n <;> simp [hi]
theorem mk_or_add (m : Nat) (p : Nat → Bool) : mk m p ||| 2 ^ m = mk m p + 2 ^ m := by
  have h := Nat.two_pow_add_eq_or_of_lt (mk_lt m p) 1
  rw [Nat.mul_one] at h
  rw [Nat.or_comm, ← h, Nat.add_comm]
theorem mk_compl (n : Nat) (p : Nat → Bool) : 2 ^ n - 1 - mk n p = mk n fun a => !p a := by
  induction n with
  | zero => simp [mk]
  | succ m ih =>
    have h1 := mk_lt m p
    have h2 : mk m (fun a => !p a) + mk m p + 1 = 2 ^ m := by omega
    simp only [mk]
    rw [Nat.pow_succ]
    by_cases e : p m = true
    · rw [if_pos e, if_neg (by simp [e]), mk_or_add]
      omega
    · rw [if_neg e, if_pos (by simpa using e), mk_or_add]
      omega
theorem mem_app {n : Nat} {u v : List Nat} (hu : ∀ x ∈ u, x < n) (hv : ∀ x ∈ v, x < n) : ∀ x ∈ u ++ v, x < n := fun x hx => (List.mem_append.1 hx).elim (hu x) (hv x)
/-- a join's letters, told in two ways -/
theorem join_TrEq {f : Nat → Nat → Bool} (hs : ∀ a b, f a b = f b a) {u p a : List Nat} (h : cutP f p u = some a) (b : List Nat) : TrEq f (p ++ a ++ b) (u ++ b) :=
  TrEq.append_right f hs (TrEq.symm f hs (cutP_spec f hs h)) b
theorem mk_split (n : Nat) (p q : Nat → Bool) : mk n (fun a => p a && q a) + mk n (fun a => p a && !q a) = mk n p := by
  induction n with
  | zero => rfl
  | succ m ih =>
    simp only [mk]
    by_cases e1 : p m = true
    · by_cases e2 : q m = true
      · rw [if_pos (by simp [e1, e2]), if_neg (by simp [e2]), if_pos e1, mk_or_add, mk_or_add]; omega
      · rw [if_neg (by simp [e2]), if_pos (by simp [e1, e2]), if_pos e1, mk_or_add, mk_or_add]; omega
    · rw [if_neg (by simp [e1]), if_neg (by simp [e1]), if_neg e1]; exact ih
theorem mk_and (n : Nat) (p q : Nat → Bool) : mk n p &&& mk n q = mk n fun a => p a && q a := bits_ext fun i => by
  rw [Nat.testBit_and, testBit_mk, testBit_mk, testBit_mk]
  by_cases hi : i < n <;> simp [hi]
theorem or_full {n M c : Nat} (hM : M < 2 ^ n) (hc : c < n) : M ||| (2 ^ c - 1) = mk n fun a => M.testBit a || decide (a < c) := bits_ext fun i => by
  rw [Nat.testBit_or, testBit_full, testBit_mk]
  by_cases hi : i < n
  · simp [hi]
  · rw [bit_of_lt hM (by omega)]
    simp [hi]; omega
/-- what may not stand behind the first i letters -/
def mskP (n : Nat) (f : Nat → Nat → Bool) (w : List Nat) (i : Nat) : Nat := (w.take i).foldl (afterP n f) 0
theorem mskP_zero (n : Nat) (f : Nat → Nat → Bool) (w : List Nat) : mskP n f w 0 = 0 := rfl
theorem mskP_succ (n : Nat) (f : Nat → Nat → Bool) (w : List Nat) (i : Nat) (h : i < w.length) : mskP n f w (i + 1) = afterP n f (mskP n f w i) (w.getD i 0) := by
  unfold mskP
  rw [List.take_add_one, List.getElem?_eq_getElem h, List.foldl_append, List.getD_eq_getElem?_getD, List.getElem?_eq_getElem h]
  rfl
theorem mskP_lt (n : Nat) (f : Nat → Nat → Bool) (w : List Nat) (i : Nat) (h : i ≤ w.length) : mskP n f w i < 2 ^ n := by
  cases i with
  | zero => exact Nat.two_pow_pos n
  | succ i => rw [mskP_succ n f w i (by omega)]; exact afterP_lt n f _ _
def msks (n : Nat) (f : Nat → Nat → Bool) (w : List Nat) (m : Nat) : List Int := (List.range m).map fun i => ((mskP n f w i : Nat) : Int)
theorem msks_length (n : Nat) (f : Nat → Nat → Bool) (w : List Nat) (m : Nat) : (msks n f w m).length = m := by simp [msks]
theorem msks_succ (n : Nat) (f : Nat → Nat → Bool) (w : List Nat) (m : Nat) : msks n f w (m + 1) = msks n f w m ++ [((mskP n f w m : Nat) : Int)] := by
  unfold msks
  rw [List.range_succ, List.map_append]; rfl
theorem rd_msks (n : Nat) (f : Nat → Nat → Bool) (w : List Nat) (m i : Nat) (h : i < m) : rd (msks n f w m) (i : Int) = ((mskP n f w i : Nat) : Int) := by
  rw [rd_lt _ _ (by rw [msks_length]; exact h)]
  simp [msks]
/-- the letters that may stand in place of the i-th one and are greater -/
def upP (n : Nat) (f : Nat → Nat → Bool) (w : List Nat) (i c : Nat) : Bool := decide (w.getD i 0 < c) && openP (mskP n f w i) c
/-- the next word, looked for below place i -/
def nextK (n : Nat) (f : Nat → Nat → Bool) (w : List Nat) : Nat → Option (List Nat)
  | 0 => none
  | i + 1 => if (List.range n).any (upP n f w i) = true then some (w.take i ++ leastF (upP n f w i) n :: fillP n f (w.length - (i + 1)) (afterP n f (mskP n f w i) (leastF (upP n f w i) n))) else nextK n f w i
def nextR (n : Nat) (f : Nat → Nat → Bool) (w : List Nat) (i : Nat) : List Int × Int := match nextK n f w i with
  | some l => (ints l, 0)
  | none => ([], 4)
theorem nextR_zero (n : Nat) (f : Nat → Nat → Bool) (w : List Nat) : nextR n f w 0 = ([], 4) := rfl
theorem nextR_hit (n : Nat) (f : Nat → Nat → Bool) (w : List Nat) (i : Nat) (h : ∃ c, c < n ∧ upP n f w i c = true) :
    nextR n f w (i + 1) = (ints (w.take i ++ leastF (upP n f w i) n :: fillP n f (w.length - (i + 1)) (afterP n f (mskP n f w i) (leastF (upP n f w i) n))), 0) := by
  have e : (List.range n).any (upP n f w i) = true := by
    obtain ⟨c, h1, h2⟩ := h
    exact List.any_eq_true.2 ⟨c, List.mem_range.2 h1, h2⟩
  unfold nextR
  simp only [nextK]
  rw [if_pos e]
theorem nextR_miss (n : Nat) (f : Nat → Nat → Bool) (w : List Nat) (i : Nat) (h : ∀ c, c < n → upP n f w i c = false) : nextR n f w (i + 1) = nextR n f w i := by
  have e : ¬ (List.range n).any (upP n f w i) = true := by
    rw [List.any_eq_true]
    rintro ⟨c, h1, h2⟩
    rw [h c (List.mem_range.1 h1)] at h2; cases h2
  unfold nextR
  simp only [nextK]
  rw [if_neg e]
theorem nextK_length (n : Nat) (f : Nat → Nat → Bool) (w : List Nat) : ∀ i, i ≤ w.length → ∀ l, nextK n f w i = some l → l.length = w.length := by
  intro i
  induction i with
  | zero => intro _ l h; cases h
  | succ i ih =>
    intro hi l h
    simp only [nextK] at h
    split at h
    · injection h with h
      rw [← h, List.length_append, List.length_cons, fillP_length, List.length_take]
      omega
    · exact ih (by omega) l h
theorem nextR_length (n : Nat) (f : Nat → Nat → Bool) (w : List Nat) : (nextR n f w w.length).1.length ≤ w.length := by
  unfold nextR
  cases h : nextK n f w w.length with
  | none => simp
  | some l => simp [nextK_length n f w _ (Nat.le_refl _) l h]
theorem full_mk {n c : Nat} (h : c ≤ n) : 2 ^ c - 1 = mk n fun a => decide (a < c) := bits_ext fun i => by
  rw [testBit_full, testBit_mk]
  by_cases hi : i < c
  · simp [hi, show i < n by omega]
  · simp [hi]
theorem mk_zero {n : Nat} {p : Nat → Bool} (h : ∀ c, c < n → p c = false) : mk n p = 0 := Nat.eq_of_testBit_eq fun i => by
  rw [testBit_mk, Nat.zero_testBit]
  by_cases hi : i < n
  · simp [h i hi]
  · simp [hi]
theorem mk_ne_zero {n : Nat} {p : Nat → Bool} (h : ∃ c, c < n ∧ p c = true) : mk n p ≠ 0 := by
  obtain ⟨c, h1, h2⟩ := h
  intro e
  have := testBit_mk n p c
  rw [e, Nat.zero_testBit] at this
  simp [h1, h2] at this
/-- the elements at the places of a set -/
def atP {α : Type} (d : α) (l : List α) (M : Nat) : List α := ((List.range l.length).filter fun i => M.testBit i).map fun i => l.getD i d
theorem bitsOf_range {M n : Nat} (hM : M < 2 ^ n) (hn : n ≤ 64) : bitsOf M = (List.range n).filter fun i => M.testBit i := by
  unfold bitsOf
  have e : List.range 64 = List.range n ++ List.range' n (64 - n) := by
    rw [List.range_eq_range', List.range_eq_range']
    have := List.range'_append (s := 0) (m := n) (n := 64 - n) (step := 1)
    rw [show n + (64 - n) = 64 by omega] at this
    simpa using this.symm
  have e2 : (List.range' n (64 - n)).filter (fun i => M.testBit i) = [] := List.filter_eq_nil_iff.mpr fun i hi => by
    have := List.mem_range'.mp hi
    rw [bit_of_lt hM (by omega)]; simp
  rw [e, List.filter_append, e2, List.append_nil]
def downP (g : Nat → Nat → Bool) (n M : Nat) : Bool := (List.range n).all fun i => M.testBit i || (List.range n).all fun k => !(g i k && M.testBit k)
theorem and_zero {n : Nat} (p : Nat → Bool) {M : Nat} (hM : M < 2 ^ n) : mk n p &&& M = 0 ↔ (List.range n).all (fun k => !(p k && M.testBit k)) = true := by
  rw [show mk n p &&& M = mk n p &&& mk n (fun i => M.testBit i) by rw [← eq_mk hM], mk_and, List.all_eq_true]
  constructor
  · intro h k hk
    have := testBit_mk n (fun a => p a && M.testBit a) k
    rw [h, Nat.zero_testBit, decide_eq_true (List.mem_range.1 hk), Bool.true_and] at this
    cases e : (p k && M.testBit k) with
    | false => rfl
    | true => rw [e] at this; cases this
  · intro h
    refine mk_zero fun c hc => ?_
    have := h c (List.mem_range.2 hc)
    cases e : (p c && M.testBit c) with
    | false => rfl
    | true => rw [e] at this; cases this
theorem pos_step {α : Type} (g : Nat → α) (M i : Nat) : ((List.range (i + 1)).filter fun i => M.testBit i).map g = ((List.range i).filter fun i => M.testBit i).map g ++ if M.testBit i = true then [g i] else [] := by
  rw [List.range_succ, List.filter_append, List.map_append]
  congr 1
  by_cases h : M.testBit i = true <;> simp [h]
/-- the letters at the places of a set -/
def lettersP (w : List Nat) (M : Nat) : List Nat := ((List.range w.length).filter fun i => M.testBit i).map fun i => w.getD i 0
theorem lettersP_length (w : List Nat) (M : Nat) : (lettersP w M).length ≤ w.length := by
  unfold lettersP
  rw [List.length_map]
  exact Nat.le_trans (List.length_filter_le _ _) (by simp)
theorem lettersP_lt {n : Nat} {w : List Nat} (hw : ∀ x ∈ w, x < n) (M : Nat) : ∀ x ∈ lettersP w M, x < n := by
  intro x hx
  unfold lettersP at hx
  obtain ⟨i, h1, rfl⟩ := List.mem_map.1 hx
  exact getD_lt hw (List.mem_range.1 (List.mem_filter.1 h1).1)
theorem mem_filter_lt {n : Nat} {w : List Nat} (hw : ∀ x ∈ w, x < n) (p : Nat → Bool) : ∀ x ∈ w.filter p, x < n := fun x hx => hw x (List.mem_filter.1 hx).1
theorem filter_mk {n : Nat} {w : List Nat} (hw : ∀ x ∈ w, x < n) (p : Nat → Bool) : w.filter (fun a => (mk n p).testBit a) = w.filter p := List.filter_congr fun x hx => by
  rw [testBit_mk]; simp [hw x hx]
/-- the least elements of the classes of a relation -/
def seenP (n : Nat) (E : Nat → Nat → Bool) (i b : Nat) : Bool := (List.range i).any fun c => clos n E c b
theorem seenP_iff (n : Nat) (E : Nat → Nat → Bool) (i b : Nat) : seenP n E i b = true ↔ ∃ c, c < i ∧ clos n E c b = true := by
  simp [seenP, List.any_eq_true]
theorem seenP_succ (n : Nat) (E : Nat → Nat → Bool) (i b : Nat) : seenP n E (i + 1) b = (seenP n E i b || clos n E i b) := by
  unfold seenP
  rw [List.range_succ, List.any_append]; simp
def classesP (n : Nat) (E : Nat → Nat → Bool) (i : Nat) : List Nat := (List.range i).filter fun i => !seenP n E i i
theorem classesP_succ (n : Nat) (E : Nat → Nat → Bool) (i : Nat) : classesP n E (i + 1) = classesP n E i ++ if seenP n E i i = true then [] else [i] := by
  unfold classesP
  rw [List.range_succ, List.filter_append]
  congr 1
  by_cases h : seenP n E i i = true <;> simp [h]
theorem classesP_length (n : Nat) (E : Nat → Nat → Bool) (i : Nat) : (classesP n E i).length ≤ i := by
  unfold classesP
  exact Nat.le_trans (List.length_filter_le _ _) (by simp)
theorem ChainAt.le {g : Nat → Nat → Bool} {n : Nat} {B : Nat → Nat} {i0 : Nat} (h : ∀ j, i0 ≤ j → j < n → ChainAt g n B j) : ∀ d i, i + d + 1 = n → i0 ≤ i → B i ≤ n - i := by
  intro d
  induction d using Nat.strongRecOn with
  | ind d ih =>
    intro i hi h0
    rcases (h i h0 (by omega)).2.2 with e | ⟨k, k1, k2, k3, k4⟩
    · omega
    · have := ih (n - k - 1) (by omega) k (by omega) (by omega)
      omega
/-- 1, or 1 more than the greatest of the values at some places -/
def topV (B : Nat → Nat) (ks : List Nat) : Nat := ks.foldl (fun v k => max v (B k + 1)) 1
theorem topV_snoc (B : Nat → Nat) (ks : List Nat) (k : Nat) : topV B (ks ++ [k]) = max (topV B ks) (B k + 1) := by simp [topV]
theorem topV_spec (B : Nat → Nat) (ks : List Nat) : 1 ≤ topV B ks ∧ (∀ k ∈ ks, B k + 1 ≤ topV B ks) ∧ (topV B ks = 1 ∨ ∃ k ∈ ks, topV B ks = B k + 1) := by
  have key : ∀ (suf pre : List Nat), pre ++ suf = ks → (1 ≤ topV B pre ∧ (∀ k ∈ pre, B k + 1 ≤ topV B pre) ∧ (topV B pre = 1 ∨ ∃ k ∈ pre, topV B pre = B k + 1)) → (1 ≤ topV B ks ∧ (∀ k ∈ ks, B k + 1 ≤ topV B ks) ∧ (topV B ks = 1 ∨ ∃ k ∈ ks, topV B ks = B k + 1)) := by
    intro suf
    induction suf with
    | nil => intro pre hp h; rw [List.append_nil] at hp; subst hp; exact h
    | cons x suf ih =>
      intro pre hp h
      refine ih (pre ++ [x]) (by simpa using hp) ?_
      rw [topV_snoc]
      obtain ⟨h1, h2, h3⟩ := h
      refine ⟨by omega, fun k hk => ?_, ?_⟩
      · rcases List.mem_append.1 hk with hk | hk
        · have := h2 k hk; omega
        · rw [List.mem_singleton.1 hk]; omega
      · by_cases c : topV B pre ≤ B x + 1
        · exact .inr ⟨x, by simp, by omega⟩
        · rcases h3 with h3 | ⟨k, k1, k2⟩
          · omega
          · exact .inr ⟨k, by simp [k1], by omega⟩
  exact key ks [] rfl ⟨by simp [topV], by simp, .inl rfl⟩
/-- the latest steps -/
def latestP (H n : Nat) (B : Nat → Nat) : List Int := (List.range n).map fun i => (H : Int) + 1 - (B i : Int)
theorem latestP_succ (H i : Nat) (B : Nat → Nat) : latestP H (i + 1) B = latestP H i B ++ [(H : Int) + 1 - (B i : Int)] := by
  unfold latestP
  rw [List.range_succ, List.map_append]; rfl
theorem latestP_length (H n : Nat) (B : Nat → Nat) : (latestP H n B).length = n := by simp [latestP]
-- (a fact on wrap64 never lies in a context where omega is called: the kernel dies of it)
theorem wS (i : Nat) (h : i ≤ 1000000) : wrap64 ((i : Int) + 1) = ((i + 1 : Nat) : Int) := by rw [w64' (by omega)]; omega
theorem bit_zero (m i : Nat) (hm : m < 2 ^ 62) (h : i ≤ 64) : (Go.bits .and .i64 (shr .i64 (m : Int) (i : Int)) 1 = 0) ↔ m.testBit i = false := by
  rw [shr_nat m i h]
  have := b_and (m / 2 ^ i) 1 (Nat.lt_of_le_of_lt (Nat.div_le_self _ _) hm) (by decide)
  rw [show ((1 : Nat) : Int) = 1 from rfl] at this
  rw [this, Nat.and_one_is_mod, Nat.testBit_eq_decide_div_mod_eq, decide_eq_false_iff_not]
  omega
theorem swap_at {w : List Nat} {i : Nat} (h : i + 1 < w.length) : ∃ p x y q, w = p ++ x :: y :: q ∧ p.length = i := by
  refine ⟨w.take i, w[i], w[i + 1], w.drop (i + 2), ?_, by simp; omega⟩
  rw [← List.drop_eq_getElem_cons, ← List.drop_eq_getElem_cons, List.take_append_drop]
theorem Word.of {n : Nat} {u : List Nat} (hl : u.length ≤ 24) (hu : ∀ x ∈ u, x < n) : Word (n : Int) (ints u) := by
  refine ⟨by simpa using hl, fun x hx => ?_⟩
  obtain ⟨y, hy, rfl⟩ := List.mem_map.1 hx
  have := hu y hy
  omega
theorem u8_bounds {x : Int} (h : (Lit.int .u8 x).wf = true) : 0 ≤ x ∧ x ≤ 255 := by
  simp only [Lit.wf, IntKind.min, IntKind.max, IntKind.signed, IntKind.bits, Bool.and_eq_true, decide_eq_true_eq] at h
  simp at h
  omega
theorem downP_iff (g : Nat → Nat → Bool) (n M : Nat) : downP g n M = true ↔ ∀ i, i < n → M.testBit i = false → ∀ k, k < n → M.testBit k = true → g i k = false := by
  simp only [downP, List.all_eq_true, List.mem_range, Bool.or_eq_true, Bool.not_eq_true', Bool.and_eq_false_iff]
  constructor
  · intro h i hi hm k hk hkm
    rcases h i hi with h1 | h1
    · rw [hm] at h1; cases h1
    · rcases h1 k hk with h2 | h2
      · exact h2
      · rw [hkm] at h2; cases h2
  · intro h i hi
    cases hm : M.testBit i with
    | true => exact .inl rfl
    | false =>
      refine .inr fun k hk => ?_
      cases hkm : M.testBit k with
      | true => exact .inl (h i hi hm k hk hkm)
      | false => exact .inr rfl
theorem lettersP_prefix {n : Nat} {f : Nat → Nat → Bool} (hs : ∀ a b, f a b = f b a) (hr : ∀ a, a < n → f a a = true) {w : List Nat} (hw : ∀ x ∈ w, x < n) {M : Nat} (hd : downP (ordP f w) w.length M = true) : ∃ r, cutP f (lettersP w M) w = some r := by
  have hd' := (downP_iff _ _ _).1 hd
  let out : Nat → List Nat := fun i => ((List.range i).filter fun k => M.testBit k).map fun k => w.getD k 0
  let off : Nat → List Nat := fun i => ((List.range i).filter fun k => !M.testBit k).map fun k => w.getD k 0
  have step : ∀ i, i ≤ w.length → TrEq f (w.take i) (out i ++ off i) := by
    intro i
    induction i with
    | zero => intro _; exact TrEq.refl f []
    | succ i ih =>
      intro hi
      have i1 := ih (by omega)
      have et : w.take (i + 1) = w.take i ++ [w.getD i 0] := by
        rw [List.take_add_one, List.getElem?_eq_getElem (by omega), List.getD_eq_getElem?_getD, List.getElem?_eq_getElem (by omega)]; rfl
      have eo : out (i + 1) = out i ++ if M.testBit i = true then [w.getD i 0] else [] := pos_step (fun k => w.getD k 0) M i
      have ef : off (i + 1) = off i ++ if M.testBit i = true then [] else [w.getD i 0] := by
        simp only [off]
        rw [List.range_succ, List.filter_append, List.map_append]
        congr 1
        by_cases h : M.testBit i = true <;> simp [h]
      have t1 : TrEq f (w.take (i + 1)) (out i ++ (off i ++ [w.getD i 0])) := by
        rw [et, ← List.append_assoc]
        exact TrEq.append_right f hs i1 [w.getD i 0]
      by_cases h : M.testBit i = true
      · rw [eo, ef, if_pos h, if_pos h, List.append_nil, List.append_assoc]
        have ind : ∀ b ∈ off i, f b (w.getD i 0) = false := fun b hb => by
          obtain ⟨k, k1, rfl⟩ := List.mem_map.1 hb
          obtain ⟨k2, k3⟩ := List.mem_filter.1 k1
          have k2 := List.mem_range.1 k2
          cases e : f (w.getD k 0) (w.getD i 0) with
          | false => rfl
          | true =>
            have hord : ordP f w k i = true := clos_edge (by
              show (decide (k < i ∧ i < w.length) && f (w.getD k 0) (w.getD i 0)) = true
              rw [e, decide_eq_true ⟨k2, by omega⟩]; rfl)
            rw [hd' k (by omega) (by simpa using k3) i (by omega) h] at hord
            cases hord
        have hni : w.getD i 0 ∉ off i := fun hm => by
          have := ind _ hm
          rw [hr _ (getD_lt hw (by omega))] at this; cases this
        refine TrEq.trans f hs t1 (TrEq.append_left f (out i) ?_)
        exact TrEq.over f hs ind hni
      · rw [eo, ef, if_neg h, if_neg h, List.append_nil]
        exact t1
  have fin := step w.length (Nat.le_refl _)
  rw [List.take_length] at fin
  obtain ⟨r, r1, _⟩ := cutP_TrEq_right f hs (TrEq.symm f hs fin) (cutP_self_append f (out w.length) (off w.length))
  exact ⟨r, r1⟩
structure Two (n : Int) (D l1 l2 : List Int) (m : Nat) (f : Nat → Nat → Bool) (u v : List Nat) : Prop where
  en : n = (m : Int)
  eD : D = mat m f
  e1 : l1 = ints u
  e2 : l2 = ints v
  hm : m ≤ 8
  hs : ∀ a b, f a b = f b a
  hr : ∀ a, a < m → f a a = true
  hul : u.length ≤ 24
  hu : ∀ x ∈ u, x < m
  hvl : v.length ≤ 24
  hv : ∀ x ∈ v, x < m
  hA : Alpha (m : Int) (mat m f)
/-- rows with numbers of their own, one behind the other -/
def marksS : List (List Int) → Int → List (List Int)
  | [], _ => []
  | x :: xs, c => marks x 0 c :: marksS xs (c + x.length)
def lenS (l : List (List Int)) : Nat := (l.map List.length).sum
theorem marksS_length : ∀ (xs : List (List Int)) (c : Int), (marksS xs c).length = xs.length := by
  intro xs
  induction xs with
  | nil => intro c; rfl
  | cons x xs ih => intro c; simp [marksS, ih]
theorem shl_nat (X m : Nat) (hX : X < 2 ^ 30) (hm : m ≤ 30) : shl .i64 (X : Int) (m : Int) = ((2 ^ m * X : Nat) : Int) := by
  have h1 : 2 ^ m ≤ 2 ^ 30 := Nat.pow_le_pow_right (by decide) hm
  have h2 : 2 ^ m * X < 2 ^ 62 := by
    have : 2 ^ m * X ≤ 2 ^ 30 * X := Nat.mul_le_mul_right _ h1
    omega
  unfold shl
  rw [Int.toNat_natCast, Nat.min_eq_left (show m ≤ IntKind.i64.bits by simp [IntKind.bits]; omega)]
  have e : (X : Int) * 2 ^ m = ((2 ^ m * X : Nat) : Int) := by rw [Nat.mul_comm]; simp
  rw [e, i64_62 _ (by omega) (by exact_mod_cast h2)]
/-- the first element of a list with the greatest value -/
def amS (L : Nat → Nat) (o : Option Nat) (k : Nat) : Option Nat := match o with
  | none => some k
  | some b => if L b < L k then some k else some b
def am (L : Nat → Nat) (l : List Nat) : Option Nat := l.foldl (amS L) none
theorem am_snoc (L : Nat → Nat) (l : List Nat) (k : Nat) : am L (l ++ [k]) = amS L (am L l) k := by simp [am]
theorem amS_fold (L : Nat → Nat) : ∀ (l : List Nat) (x : Nat), l.foldl (amS L) (some x) = match am L l with | none => some x | some b => if L x < L b then some b else some x := by
  intro l
  induction l with
  | nil => intro x; rfl
  | cons y l ih =>
    intro x
    have e : am L (y :: l) = l.foldl (amS L) (some y) := rfl
    rw [e, List.foldl_cons, ih y]
    show l.foldl (amS L) (if L x < L y then some y else some x) = _
    by_cases h1 : L x < L y
    · rw [if_pos h1, ih y]
      cases h2 : am L l with
      | none => simp [h1]
      | some b =>
        simp only []
        by_cases h3 : L y < L b
        · simp [h3, show L x < L b by omega]
        · simp [h3, h1]
    · rw [if_neg h1, ih x]
      cases h2 : am L l with
      | none => simp [h1]
      | some b =>
        simp only []
        by_cases h3 : L y < L b
        · simp [h3]
        · simp [h3, h1, show ¬ L x < L b by omega]
theorem am_cons (L : Nat → Nat) (x : Nat) (l : List Nat) : am L (x :: l) = match am L l with | none => some x | some b => if L x < L b then some b else some x := amS_fold L l x
theorem am_none (L : Nat → Nat) {l : List Nat} : am L l = none ↔ l = [] := by
  cases l with
  | nil => simp [am]
  | cons x l =>
    rw [am_cons]
    cases am L l with
    | none => simp
    | some b =>
      simp only []
      by_cases h : L x < L b <;> simp [h]
theorem am_some (L : Nat → Nat) : ∀ {l : List Nat} {b : Nat}, am L l = some b → b ∈ l ∧ ∀ k ∈ l, L k ≤ L b := by
  intro l
  induction l with
  | nil => intro b h; cases h
  | cons x l ih =>
    intro b h
    rw [am_cons] at h
    cases h2 : am L l with
    | none =>
      rw [h2] at h
      simp only [Option.some.injEq] at h
      subst h
      rw [(am_none L).1 h2]
      exact ⟨List.mem_cons_self .., fun k hk => by simp at hk; subst hk; exact Nat.le_refl _⟩
    | some c =>
      rw [h2] at h
      simp only [] at h
      obtain ⟨c1, c2⟩ := ih h2
      by_cases h3 : L x < L c
      · rw [if_pos h3] at h
        simp only [Option.some.injEq] at h
        subst h
        refine ⟨List.mem_cons_of_mem _ c1, fun k hk => ?_⟩
        rcases List.mem_cons.1 hk with rfl | hk
        · omega
        · exact c2 k hk
      · rw [if_neg h3] at h
        simp only [Option.some.injEq] at h
        subst h
        refine ⟨List.mem_cons_self .., fun k hk => ?_⟩
        rcases List.mem_cons.1 hk with rfl | hk
        · omega
        · have := c2 k hk; omega
/-- the chain that takes the first one of the greatest value, and goes on from there -/
def chF (L : Nat → Nat) (sc : Nat → List Nat) : Nat → List Nat → List Nat
  | 0, _ => []
  | f + 1, l => match am L l with
    | none => []
    | some b => b :: chF L sc f (sc b)
theorem chF_fuel (L : Nat → Nat) (sc : Nat → List Nat) (n : Nat) (hsc : ∀ i, ∀ k ∈ sc i, i < k ∧ k < n) : ∀ (f f' i0 : Nat) (l : List Nat), (∀ k ∈ l, i0 ≤ k ∧ k < n) → n ≤ f + i0 → n ≤ f' + i0 → chF L sc f l = chF L sc f' l := by
  intro f
  induction f with
  | zero =>
    intro f' i0 l hl h1 h2
    cases f' with
    | zero => rfl
    | succ f' =>
      have : l = [] := List.eq_nil_iff_forall_not_mem.2 (fun k hk => by have := hl k hk; omega)
      subst this
      rfl
  | succ f ih =>
    intro f' i0 l hl h1 h2
    cases f' with
    | zero =>
      have : l = [] := List.eq_nil_iff_forall_not_mem.2 (fun k hk => by have := hl k hk; omega)
      subst this
      rfl
    | succ f' =>
      simp only [chF]
      cases h : am L l with
      | none => rfl
      | some b =>
        have hb := hl b (am_some L h).1
        simp only []
        rw [ih f' (b + 1) (sc b) (fun k hk => ⟨(hsc b k hk).1, (hsc b k hk).2⟩) (by omega) (by omega)]
def scP (g : Nat → Nat → Bool) (n i : Nat) : List Nat := (List.range n).filter fun k => decide (i < k) && g i k
theorem scP_mem {g : Nat → Nat → Bool} {n i k : Nat} : k ∈ scP g n i ↔ k < n ∧ i < k ∧ g i k = true := by simp [scP]
def bcP (L : Nat → Nat) (g : Nat → Nat → Bool) (n i : Nat) : List Nat := i :: chF L (scP g n) n (scP g n i)
theorem bcP_eq (L : Nat → Nat) (g : Nat → Nat → Bool) (n i : Nat) (hi : i < n) : bcP L g n i = match am L (scP g n i) with | none => [i] | some b => i :: bcP L g n b := by
  unfold bcP
  obtain ⟨n', rfl⟩ : ∃ n', n = n' + 1 := ⟨n - 1, by omega⟩
  rw [show chF L (scP g (n' + 1)) (n' + 1) (scP g (n' + 1) i) = (match am L (scP g (n' + 1) i) with | none => [] | some b => b :: chF L (scP g (n' + 1)) n' (scP g (n' + 1) b)) from rfl]
  cases h : am L (scP g (n' + 1) i) with
  | none => rfl
  | some b =>
    have hb := scP_mem.1 (am_some L h).1
    simp only []
    rw [chF_fuel L (scP g (n' + 1)) (n' + 1) (fun i k hk => ⟨(scP_mem.1 hk).2.1, (scP_mem.1 hk).1⟩) n' (n' + 1) (b + 1) _ (fun k hk => ⟨(scP_mem.1 hk).2.1, (scP_mem.1 hk).1⟩) (by omega) (by omega)]
theorem bcP_length (L : Nat → Nat) (g : Nat → Nat → Bool) (n : Nat) (hL : ∀ i, i < n → ChainAt g n L i) : ∀ (d i : Nat), i + d + 1 = n → (bcP L g n i).length = L i := by
  intro d
  induction d using Nat.strongRecOn with
  | ind d ih =>
    intro i hi
    obtain ⟨h1, h2, h3⟩ := hL i (by omega)
    rw [bcP_eq L g n i (by omega)]
    cases h : am L (scP g n i) with
    | none =>
      have hn := (am_none L).1 h
      rcases h3 with h3 | ⟨k, k1, k2, k3, _⟩
      · exact h3.symm
      · have : k ∈ scP g n i := scP_mem.2 ⟨k2, k1, k3⟩
        rw [hn] at this
        cases this
    | some b =>
      obtain ⟨b1, b2⟩ := am_some L h
      have hb := scP_mem.1 b1
      have e := ih (n - b - 1) (by omega) b (by omega)
      simp only [List.length_cons]
      rw [e]
      have e1 := h2 b hb.2.1 hb.1 hb.2.2
      have e0 := (hL b hb.1).1
      rcases h3 with h3 | ⟨k, k1, k2, k3, k4⟩
      · omega
      · have := b2 k (scP_mem.2 ⟨k2, k1, k3⟩)
        omega
def scU (g : Nat → Nat → Bool) (i k : Nat) : List Nat := (List.range k).filter fun j => decide (i < j) && g i j
theorem scU_succ (g : Nat → Nat → Bool) (i k : Nat) (h : i < k) : scU g i (k + 1) = if g i k = true then scU g i k ++ [k] else scU g i k := by
  unfold scU
  rw [List.range_succ, List.filter_append]
  by_cases c : g i k = true
  · rw [if_pos c]; simp [h, c]
  · rw [if_neg c]; simp [c]
theorem scU_start (g : Nat → Nat → Bool) (i : Nat) : scU g i (i + 1) = [] := by
  unfold scU
  refine List.filter_eq_nil_iff.2 (fun j hj => ?_)
  have := List.mem_range.1 hj
  simp
  intro h
  omega
def curP (L : Nat → Nat) (g : Nat → Nat → Bool) (n i : Nat) (l : List Nat) : List Nat := match am L l with
  | none => [i]
  | some b => i :: bcP L g n b
end Go.Proofs.YtemdfjdmokbcoaaDoor.PAll
