import Derived.Test.YthgapkbkhoeleaaDoorPAllx23
import Derived.Test.YthgapkbkhoeleaaDoorV0
import Derived.Test.YthgapkbkhoeleaaDoorV1
import Derived.Test.YthgapkbkhoeleaaDoorV11
import Derived.Test.YthgapkbkhoeleaaDoorV2
import Derived.Test.YthgapkbkhoeleaaDoorV6
import Derived.Test.YthgapkbkhoeleaaDoorQBase
import Derived.Test.YthgapkbkhoeleaaDoorQMask
import Derived.Test.YthgapkbkhoeleaaDoorQMeet
import Derived.Test.YthgapkbkhoeleaaDoorQOrder
import Derived.Test.YthgapkbkhoeleaaDoorQParts
import Derived.Test.YthgapkbkhoeleaaDoorQRev
import Derived.Test.YthgapkbkhoeleaaDoorQTrace
set_option linter.unusedVariables false
set_option linter.unusedSimpArgs false
namespace Go.Proofs.YthgapkbkhoeleaaDoor.PAll
open Go.RowKit Go.Proofs.YthgapkbkhoeleaaDoorW.PrintWords Go.Proofs.YthgapkbkhoeleaaDoorW.PrintMore Go.Proofs.YthgapkbkhoeleaaDoor.Q
theorem l07Letters_ev (n : Nat) (hn : n ≤ 24) (w : List Nat) (hl : w.length ≤ 1000000) (hw : ∀ x ∈ w, x < n) : Ev (fun k => spec_l07Letters.f k (ints w)) ((mk n (fun a => decide (a ∈ w)) : Nat) : Int) := by
  have loop : ∀ (suf pre : List Nat), pre ++ suf = w → Ev (fun k => spec_l07Letters.l0 k (ints w) ((mk n (fun a => decide (a ∈ pre)) : Nat) : Int) (pre.length : Int)) ((mk n (fun a => decide (a ∈ w)) : Nat) : Int) := by
    intro suf
    induction suf with
    | nil =>
      intro pre hp
      rw [List.append_nil] at hp
      subst hp
      refine Ev.succ ?_
      simp only [spec_l07Letters.l0]
      exact Ev.neg (by simp) (Ev.now _)
    | cons x suf ih =>
      intro pre hp
      have hlen : pre.length + suf.length + 1 = w.length := by rw [← hp]; simp; omega
      have hx : x < n := hw x (by rw [← hp]; simp)
      have i1 := ih (pre ++ [x]) (by simpa using hp)
      rw [show (pre ++ [x]).length = pre.length + 1 by simp] at i1
      have rx : rd (ints w) (pre.length : Int) = (x : Int) := by rw [← hp]; exact rd_mid pre suf x
      have h5 : (2 : Nat) ^ x ≤ 2 ^ 24 := pow24 (by omega)
      have eb : mk n (fun a => decide (a ∈ pre ++ [x])) = mk n (fun a => decide (a ∈ pre)) ||| 2 ^ x := bits_ext fun i => by
        rw [Nat.testBit_or, testBit_mk, testBit_mk, testBit_one]
        by_cases hi : i < n
        · by_cases e : x = i
          · subst e; simp [hi]
          · simp [hi, e, show ¬ i = x from fun h => e h.symm]
        · simp [hi, show ¬ x = i by omega]
      rw [eb] at i1
      refine Ev.succ ?_
      simp only [spec_l07Letters.l0]
      refine Ev.pos (by simp; omega) (Ev.pos (by omega) ?_)
      rw [rx, l01One_eq x (by omega)]
      refine Ev.some_bind ?_
      rw [b_or _ _ (mk62 hn _) (two62 (by omega)), w64' (by omega)]
      exact i1
  simp only [spec_l07Letters.f]
  have := loop w [] rfl
  have e1 : mk n (fun a => decide (a ∈ ([] : List Nat))) = 0 := Nat.eq_of_testBit_eq fun i => by rw [testBit_mk]; simp
  rw [e1] at this
  exact this
theorem l06Reach_ev (n : Nat) (hn : n ≤ 24) (f : Nat → Nat → Bool) (p : Nat → Bool) : Ev (fun k => spec_l06Reach.f k (n : Int) (mat n f) ((mk n p : Nat) : Int)) ((mk n (reachP n f p) : Nat) : Int) := by
  have loop : ∀ (d i : Nat), i + d = n → Ev (fun k => spec_l06Reach.l0 k ((mk n p : Nat) : Int) ((mk n (fun b => (List.range i).any fun c => p c && f c b) : Nat) : Int) (i : Int) (n : Int) (mat n f)) ((mk n (reachP n f p) : Nat) : Int) := by
    intro d
    induction d with
    | zero =>
      intro i hi
      obtain rfl : i = n := by omega
      refine Ev.succ ?_
      simp only [spec_l06Reach.l0]
      exact Ev.neg (by omega) (Ev.now _)
    | succ d ih =>
      intro i hi
      have i1 := ih (i + 1) (by omega)
      refine Ev.succ ?_
      simp only [spec_l06Reach.l0]
      refine Ev.pos (by omega) ?_
      rw [l01Bit_eq _ i (mk62 hn _) (by omega), testBit_mk, w64' (by omega)]
      refine Ev.some_bind (Ev.ite (fun h => ?_) (fun h => ?_))
      · have hp : p i = true := (Bool.and_eq_true_iff.1 h).2
        refine Ev.pos (by omega) (Ev.pos (by simp; omega) ?_)
        rw [rd_mat n f i (by omega), b_or _ _ (mk62 hn _) (mk62 hn _), mk_or]
        have e1 : mk n (fun a => ((List.range i).any fun c => p c && f c a) || f i a) = mk n (fun b => (List.range (i + 1)).any fun c => p c && f c b) := mk_congr fun b _ => by rw [List.range_succ, List.any_append]; simp [hp]
        rw [e1]
        exact i1
      · have hp : p i = false := by simpa [show i < n by omega] using h
        have e1 : mk n (fun b => (List.range i).any fun c => p c && f c b) = mk n (fun b => (List.range (i + 1)).any fun c => p c && f c b) := mk_congr fun b _ => by rw [List.range_succ, List.any_append]; simp [hp]
        rw [e1]
        exact i1
  simp only [spec_l06Reach.f]
  have := loop n 0 (by omega)
  have e1 : mk n (fun b => (List.range 0).any fun c => p c && f c b) = 0 := mk_zero fun c _ => by simp
  rw [e1] at this
  exact this
theorem l03Project_ev (w : List Nat) (hl : w.length ≤ 1000000) (hw : ∀ x ∈ w, x ≤ 64) (M : Nat) (hM : M < 2 ^ 62) : Ev (fun k => spec_l03Project.f k (ints w) (M : Int)) (ints (w.filter fun a => M.testBit a)) := by
  have loop : ∀ (suf pre : List Nat), pre ++ suf = w → Ev (fun k => spec_l03Project.l0 k (ints w) (M : Int) (ints (pre.filter fun a => M.testBit a)) (pre.length : Int)) (ints (w.filter fun a => M.testBit a)) := by
    intro suf
    induction suf with
    | nil =>
      intro pre hp
      rw [List.append_nil] at hp
      subst hp
      refine Ev.succ ?_
      simp only [spec_l03Project.l0]
      exact Ev.neg (by simp) (Ev.now _)
    | cons x suf ih =>
      intro pre hp
      have hlen : pre.length + suf.length + 1 = w.length := by rw [← hp]; simp; omega
      have hx := hw x (by rw [← hp]; simp)
      have i1 := ih (pre ++ [x]) (by simpa using hp)
      rw [show (pre ++ [x]).length = pre.length + 1 by simp, List.filter_append] at i1
      have rx : rd (ints w) (pre.length : Int) = (x : Int) := by rw [← hp]; exact rd_mid pre suf x
      have hf := List.length_filter_le (fun a => M.testBit a) pre
      refine Ev.succ ?_
      simp only [spec_l03Project.l0]
      refine Ev.pos (by simp; omega) (Ev.pos (by omega) ?_)
      rw [rx, l01Bit_eq M x hM (by omega), w64' (by omega)]
      refine Ev.some_bind (Ev.ite (fun h => ?_) (fun h => ?_))
      · refine Ev.pos (by rw [ints_length]; omega) ?_
        rw [show [x].filter (fun a => M.testBit a) = [x] by simp [h], ints_append] at i1
        exact i1
      · rw [show [x].filter (fun a => M.testBit a) = [] by simp [h], List.append_nil] at i1
        exact i1
  simp only [spec_l03Project.f]
  exact loop w [] rfl
theorem l07Parts_ev (n : Nat) (hn : n ≤ 8) (f : Nat → Nat → Bool) (hs : ∀ a b, f a b = f b a) (hr : ∀ a, a < n → f a a = true) (w : List Nat) (hl : w.length ≤ 100000) (hw : ∀ x ∈ w, x < n) :
    Ev (fun k => spec_l07Parts.f k (n : Int) (mat n f) (ints w)) ((partsW n f w).map ints) := by
  have h24 := pow_lt62 (show n ≤ 24 by omega)
  have hL : ∀ b, (fun a => decide (a ∈ w)) b = true → b < n := fun b h => hw b (of_decide_eq_true h)
  let L : Nat → Bool := fun a => decide (a ∈ w)
  let out : Nat → List (List Int) := fun a => ((List.range a).filter (headP n f L)).map fun a => ints (normalP f n (w.filter (compP n f L a)))
  have outl : ∀ a, (out a).length ≤ a := fun a => by
    simp only [out, List.length_map]
    exact Nat.le_trans (List.length_filter_le _ _) (by simp)
  have outs : ∀ a, out (a + 1) = out a ++ if headP n f L a = true then [ints (normalP f n (w.filter (compP n f L a)))] else [] := fun a => by
    simp only [out]
    rw [List.range_succ, List.filter_append, List.map_append]
    congr 1
    by_cases h : headP n f L a = true <;> simp [h]
  have oute : out n = (partsW n f w).map ints := by
    simp only [out, partsW, List.map_map]
    rfl
  have loop : ∀ (d a : Nat), a + d = n → Ev (fun k => spec_l07Parts.l0 k (ints w) (out a) ((mk n (leftP n f L a) : Nat) : Int) (a : Int) (n : Int) (mat n f)) ((partsW n f w).map ints) := by
    intro d
    induction d with
    | zero =>
      intro a ha
      obtain rfl : a = n := by omega
      refine Ev.succ ?_
      simp only [spec_l07Parts.l0]
      rw [← oute]
      exact Ev.neg (by omega) (Ev.now _)
    | succ d ih =>
      intro a ha
      have i1 := ih (a + 1) (by omega)
      have han : a < n := by omega
      rw [outs a] at i1
      have inner : headP n f L a = true → ∀ (e m : Nat), m + e = n → Ev (fun k => spec_l07Parts.l1 k (ints w) (out a) ((mk n (leftP n f L a) : Nat) : Int) (a : Int) ((mk n (partN n f (leftP n f L a) a m) : Nat) : Int) (m : Int) (n : Int) (mat n f)) ((partsW n f w).map ints) := by
        intro h e
        rw [if_pos h] at i1
        have hLa : L a = true := ((leftP_iff n f L a a).1 h).1
        induction e with
        | zero =>
          intro m hm
          obtain rfl : m = n := by omega
          have ec : mk m (partN m f (leftP m f L a) a m) = mk m (compP m f L a) := mk_congr fun b hb => partN_comp m f hr hL hLa (fun b hb => ((leftP_iff m f L a b).1 hb).1) (left_comp m f hs hL h) b hb
          have hlt := mk_lt m (compP m f L a)
          have hlt2 := mk_lt m (leftP m f L a)
          have hsp := mk_split m (leftP m f L a) (compP m f L a)
          rw [mk_congr (p := fun b => leftP m f L a b && compP m f L a b) (q := compP m f L a) fun b _ => by
            cases hb : compP m f L a b with
            | false => simp
            | true => rw [left_comp m f hs hL h b hb]; rfl] at hsp
          have e2 : mk m (fun b => leftP m f L a b && !compP m f L a b) = mk m (leftP m f L (a + 1)) := mk_congr fun b _ => (leftP_head m f h b).symm
          rw [e2] at hsp
          have hfl := List.length_filter_le (compP m f L a) w
          have ol := outl a
          refine Ev.succ ?_
          simp only [spec_l07Parts.l1]
          rw [ec]
          refine Ev.neg (by omega) (Ev.bind (l03Project_ev w (by omega) (fun x hx => by have := hw x hx; omega) _ (by omega)) ?_)
          rw [filter_mk hw]
          refine Ev.bind (l03Normal_ev m (by omega) f _ (by omega) (mem_filter_lt hw _)) (Ev.pos (by omega) ?_)
          rw [w64' (by omega), w64' (by omega), show ((mk m (leftP m f L a) : Nat) : Int) - ((mk m (compP m f L a) : Nat) : Int) = ((mk m (leftP m f L (a + 1)) : Nat) : Int) by omega]
          exact i1
        | succ e ihe =>
          intro m hm
          have j1 := ihe (m + 1) (by omega)
          have hlt := mk_lt n (partN n f (leftP n f L a) a m)
          refine Ev.succ ?_
          simp only [spec_l07Parts.l1]
          refine Ev.pos (by omega) (Ev.bind (l06Reach_ev n (by omega) f _) ?_)
          rw [b_or _ _ (mk62 (by omega) _) (mk62 (by omega) _), mk_or, b_and _ _ (mk62 (by omega) _) (mk62 (by omega) _), mk_and, w64' (by omega)]
          exact j1
      have hx : (mk n (leftP n f L a)).testBit a = headP n f L a := by rw [testBit_mk, headP_left]; simp [han]
      refine Ev.succ ?_
      simp only [spec_l07Parts.l0]
      refine Ev.pos (by omega) ?_
      rw [l01Bit_eq _ a (mk62 (by omega) _) (by omega), hx]
      refine Ev.some_bind (Ev.ite (fun h => ?_) (fun h => ?_))
      · rw [l01One_eq a (by omega)]
        refine Ev.some_bind ?_
        have := inner h n 0 (by omega)
        rw [show mk n (partN n f (leftP n f L a) a 0) = 2 ^ a by
          refine bits_ext fun i => ?_
          rw [testBit_mk, testBit_one]
          by_cases e : a = i
          · subst e; simp [partN, han]
          · simp [partN, e, show ¬ i = a from fun h => e h.symm]] at this
        exact this
      · rw [if_neg h, List.append_nil] at i1
        rw [w64' (by omega), mk_congr (q := leftP n f L (a + 1)) fun b _ => (leftP_no n f hL (by simpa using h) b).symm]
        exact i1
  simp only [spec_l07Parts.f]
  refine Ev.bind (l07Letters_ev n (by omega) w (by omega) hw) ?_
  have := loop n 0 (by omega)
  rw [show mk n (leftP n f L 0) = mk n (fun a => decide (a ∈ w)) from mk_congr fun b _ => leftP_zero n f L b] at this
  exact this
theorem projected_ev (w : List Nat) (hl : w.length ≤ 1000000) (hw : ∀ x ∈ w, x ≤ 64) (M : Nat) (hM : M < 2 ^ 62) : Ev (fun k => impl_projected.f k (ints w) (M : Int)) (ints (w.filter fun a => M.testBit a)) := by
  have loop : ∀ (suf pre : List Nat), pre ++ suf = w → Ev (fun k => impl_projected.l0 k (M : Int) (ints (pre.filter fun a => M.testBit a)) (ints w) (w.length : Int) (pre.length : Int)) (ints (w.filter fun a => M.testBit a)) := by
    intro suf
    induction suf with
    | nil =>
      intro pre hp
      rw [List.append_nil] at hp
      subst hp
      refine Ev.succ ?_
      simp only [impl_projected.l0]
      exact Ev.neg (by omega) (Ev.now _)
    | cons x suf ih =>
      intro pre hp
      have hlen : pre.length + suf.length + 1 = w.length := by rw [← hp]; simp; omega
      have hx := hw x (by rw [← hp]; simp)
      have i1 := ih (pre ++ [x]) (by simpa using hp)
      rw [show (pre ++ [x]).length = pre.length + 1 by simp, List.filter_append] at i1
      have rx : rd (ints w) (pre.length : Int) = (x : Int) := by rw [← hp]; exact rd_mid pre suf x
      have hf := List.length_filter_le (fun a => M.testBit a) pre
      refine Ev.succ ?_
      simp only [impl_projected.l0]
      refine Ev.pos (by omega) (Ev.pos (by omega) (Ev.pos (by rw [ints_length]; omega) ?_))
      rw [rx, has_eq M x hM (by omega), w64' (by omega)]
      refine Ev.some_bind (Ev.ite (fun h => ?_) (fun h => ?_))
      · refine Ev.pos (by rw [ints_length]; omega) ?_
        rw [show [x].filter (fun a => M.testBit a) = [x] by simp [h], ints_append] at i1
        exact i1
      · rw [show [x].filter (fun a => M.testBit a) = [] by simp [h], List.append_nil] at i1
        exact i1
  simp only [impl_projected.f]
  rw [ints_length]
  exact loop w [] rfl
theorem components_ev (n : Nat) (hn : n ≤ 24) (E : Nat → Nat → Bool) (hE : ∀ a b, E a b = E b a) : Ev (fun k => impl_components.f k (mat n E)) ((classesP n E n).map fun i => ((mk n (clos n E i) : Nat) : Int)) := by
  have h24 := pow_lt62 hn
  have last : ∀ (d i : Nat), i + d = n → Ev (fun k => impl_components.l1 k ((classesP n E i).map fun i => ((mk n (clos n E i) : Nat) : Int)) ((mk n (seenP n E i) : Nat) : Int) (mat n (clos n E)) (n : Int) (i : Int)) ((classesP n E n).map fun i => ((mk n (clos n E i) : Nat) : Int)) := by
    intro d
    induction d with
    | zero =>
      intro i hi
      obtain rfl : i = n := by omega
      refine Ev.succ ?_
      simp only [impl_components.l1]
      exact Ev.neg (by omega) (Ev.now _)
    | succ d ih =>
      intro i hi
      have i1 := ih (i + 1) (by omega)
      rw [classesP_succ, List.map_append] at i1
      have cl := classesP_length n E i
      refine Ev.succ ?_
      simp only [impl_components.l1]
      refine Ev.pos (by omega) (Ev.pos (by omega) (Ev.pos (by simp; omega) ?_))
      rw [has_eq _ i (mk62 hn _) (by omega), testBit_mk, rd_mat n _ i (by omega), w64' (by omega)]
      refine Ev.some_bind (Ev.ite (fun h => ?_) (fun h => ?_))
      · have hsn : seenP n E i i = true := (Bool.and_eq_true_iff.1 h).2
        rw [if_pos hsn, List.map_nil, List.append_nil] at i1
        rw [mk_congr (q := seenP n E (i + 1)) fun b hb => by
          rw [seenP_succ]
          cases e : clos n E i b with
          | false => simp
          | true =>
            obtain ⟨c, c1, c2⟩ := (seenP_iff n E i i).1 hsn
            rw [(seenP_iff n E i b).2 ⟨c, c1, clos_trans (by omega) c2 e⟩]; rfl]
        exact i1
      · have hsn : ¬ seenP n E i i = true := by simpa [show i < n by omega] using h
        rw [if_neg hsn] at i1
        refine Ev.pos (by rw [List.length_map]; omega) ?_
        rw [b_or _ _ (mk62 hn _) (mk62 hn _), mk_or, mk_congr (q := seenP n E (i + 1)) fun b _ => (seenP_succ n E i b).symm]
        exact i1
  have first : ∀ (d i : Nat), i + d = n → Ev (fun k => impl_components.l0 k (mat n fun a b => E b a || (decide (a < i) && E a b)) (mat n E) (n : Int) (i : Int)) ((classesP n E n).map fun i => ((mk n (clos n E i) : Nat) : Int)) := by
    intro d
    induction d with
    | zero =>
      intro i hi
      obtain rfl : i = n := by omega
      refine Ev.succ ?_
      simp only [impl_components.l0]
      refine Ev.neg (by omega) ?_
      rw [mat_congr (g := E) fun a b _ _ => by rw [hE b a]; cases E a b <;> simp]
      refine Ev.bind (closure_ev i hn E) ?_
      rw [mat_length]
      have := last i 0 (by omega)
      rw [show mk i (seenP i E 0) = 0 from mk_zero fun c _ => by simp [seenP]] at this
      exact this
    | succ d ih =>
      intro i hi
      have i1 := ih (i + 1) (by omega)
      refine Ev.succ ?_
      simp only [impl_components.l0]
      refine Ev.pos (by omega) (Ev.pos (by omega) (Ev.pos (by simp; omega) (Ev.pos (by simp; omega) ?_)))
      rw [rd_mat n _ i (by omega), rd_mat n _ i (by omega), b_or _ _ (mk62 hn _) (mk62 hn _), mk_or, Int.toNat_natCast, mat_row n _ i (by omega), w64' (by omega)]
      rw [mat_congr (g := fun a b => E b a || (decide (a < i + 1) && E a b)) fun a b _ _ => by
        by_cases e : a = i
        · subst e; simp
        · rw [if_neg e]
          by_cases e2 : a < i
          · simp [e2, show a < i + 1 by omega]
          · simp [e2, show ¬ a < i + 1 by omega]]
      exact i1
  simp only [impl_components.f]
  refine Ev.bind (converse_ev n hn E) ?_
  rw [mat_length]
  have := first n 0 (by omega)
  rw [mat_congr (g := fun a b => E b a) fun a b _ _ => by simp] at this
  exact this
theorem partsOf_ev (n : Nat) (hn : n ≤ 8) (f : Nat → Nat → Bool) (hs : ∀ a b, f a b = f b a) (w : List Nat) (hl : w.length ≤ 100000) (hw : ∀ x ∈ w, x < n) :
    Ev (fun k => impl_ties_partsOf.f k (mat n f) (ints w)) ((partsW n f w).map ints) := by
  have h24 := pow_lt62 (show n ≤ 24 by omega)
  let L : Nat → Bool := fun a => decide (a ∈ w)
  have hL : ∀ b, L b = true → b < n := fun b h => hw b (of_decide_eq_true h)
  have hThere := mk_lt n L
  let comp : Nat → Int := fun i => ((mk n (compP n f L i) : Nat) : Int)
  have hE : ∀ a b, tieP f L a b = tieP f L b a := fun a b => by unfold tieP; rw [hs, Bool.and_comm (L a)]
  have hcl : ∀ i ∈ classesP n (tieP f L) n, i < n := fun i hi => List.mem_range.1 (List.mem_filter.1 hi).1
  let val : List Nat → List (List Int) := fun is => (is.filter L).map fun a => ints (normalP f n (w.filter (compP n f L a)))
  have vall : ∀ is, (val is).length ≤ is.length := fun is => by
    simp only [val, List.length_map]
    exact List.length_filter_le _ _
  have hfin : val (classesP n (tieP f L) n) = (partsW n f w).map ints := by
    simp only [val, partsW, classesP, List.map_map, List.filter_filter]
    rw [List.filter_congr (q := headP n f L) fun i hi => by
      rw [Bool.eq_iff_iff, Bool.and_eq_true, Bool.not_eq_true', headP_left, leftP_iff]
      refine and_congr_right fun hLi => ⟨fun h c hc _ => ?_, fun h => ?_⟩
      · cases e : compP n f L c i with
        | false => rfl
        | true => rw [(seenP_iff n (tieP f L) i i).2 ⟨c, hc, e⟩] at h; cases h
      · cases e : seenP n (tieP f L) i i with
        | false => rfl
        | true =>
          obtain ⟨c, c1, c2⟩ := (seenP_iff n (tieP f L) i i).1 e
          have := h c c1 (compP_out n f c2 hLi)
          rw [show compP n f L c i = true from c2] at this
          cases this]
    rfl
  have last : ∀ (suf pre : List Nat), pre ++ suf = classesP n (tieP f L) n → Ev (fun k => impl_ties_partsOf.l1 k (mat n f) (ints w) ((mk n L : Nat) : Int) (val pre) ((classesP n (tieP f L) n).map comp) (((classesP n (tieP f L) n).map comp).length : Int) (pre.length : Int)) ((partsW n f w).map ints) := by
    intro suf
    have hcn := classesP_length n (tieP f L) n
    induction suf with
    | nil =>
      intro pre hp
      rw [List.append_nil] at hp
      refine Ev.succ ?_
      simp only [impl_ties_partsOf.l1]
      rw [← hfin, ← hp]
      exact Ev.neg (by rw [List.length_map]; omega) (Ev.now _)
    | cons b suf ih =>
      intro pre hp
      have hbm : b ∈ classesP n (tieP f L) n := by rw [← hp]; simp
      have hbl := hcl b hbm
      have hlen : pre.length + suf.length + 1 = (classesP n (tieP f L) n).length := by rw [← hp]; simp; omega
      have i1 := ih (pre ++ [b]) (by simpa using hp)
      rw [show (pre ++ [b]).length = pre.length + 1 by simp, show val (pre ++ [b]) = val pre ++ val [b] by simp only [val, List.filter_append, List.map_append]] at i1
      have rb : rd ((classesP n (tieP f L) n).map comp) (pre.length : Int) = comp b := by
        rw [rd_lt _ _ (by rw [List.length_map]; omega), List.getElem_map]
        have : (classesP n (tieP f L) n)[pre.length]'(by omega) = b := by
          simp only [← hp]
          simp
        rw [this]
      have hv := vall pre
      have hfl := List.length_filter_le (compP n f L b) w
      have hlt := mk_lt n (compP n f L b)
      refine Ev.succ ?_
      simp only [impl_ties_partsOf.l1]
      refine Ev.pos (by rw [List.length_map]; omega) (Ev.pos (by omega) (Ev.pos (by rw [List.length_map]; omega) ?_))
      rw [rb]
      simp only [comp]
      rw [b_and _ _ (by omega) (by omega), mk_and, w64' (by omega)]
      by_cases h : L b = true
      · have hne : mk n (fun a => compP n f L b a && L a) ≠ 0 := mk_ne_zero ⟨b, hbl, by rw [h, show compP n f L b b = true from clos_refl n b]; rfl⟩
        refine Ev.neg (by omega) (Ev.bind (projected_ev w (by omega) (fun x hx => by have := hw x hx; omega) _ (by omega)) ?_)
        rw [filter_mk hw]
        refine Ev.bind (normal_ev n hn f _ (by omega) (mem_filter_lt hw _)) (Ev.pos (by omega) ?_)
        rw [show val [b] = [ints (normalP f n (w.filter (compP n f L b)))] by simp [val, h]] at i1
        exact i1
      · have hz : mk n (fun a => compP n f L b a && L a) = 0 := mk_zero fun c hc => by
          cases e : compP n f L b c with
          | false => rfl
          | true =>
            have := compP_alone n f e (by simpa using h)
            subst this
            simpa using h
        rw [hz]
        rw [show val [b] = [] by simp [val, h], List.append_nil] at i1
        exact Ev.pos rfl i1
  have h64 := bitsOf_length (mk n L)
  have hbm : ∀ i ∈ bitsOf (mk n L), i < n ∧ L i = true := fun i hi => by
    have := (mem_bitsOf (by have : (2 : Nat) ^ 62 < 2 ^ 64 := by decide
                            omega)).1 hi
    rw [testBit_mk] at this
    simpa using this
  have hbc : ∀ i, i < n → L i = true → i ∈ bitsOf (mk n L) := fun i hi hl => (mem_bitsOf (by have : (2 : Nat) ^ 62 < 2 ^ 64 := by decide
                                                                                             omega)).2 (by rw [testBit_mk]; simp [hi, hl])
  have hil : (intsOf (mk n L)).length = (bitsOf (mk n L)).length := by simp [intsOf]
  have first : ∀ (suf pre : List Nat), pre ++ suf = bitsOf (mk n L) → Ev (fun k => impl_ties_partsOf.l0 k (mat n f) (ints w) ((mk n L : Nat) : Int) (mat n fun a b => decide (a ∈ pre) && (f a b && L b)) (intsOf (mk n L)) ((intsOf (mk n L)).length : Int) (pre.length : Int)) ((partsW n f w).map ints) := by
    intro suf
    induction suf with
    | nil =>
      intro pre hp
      rw [List.append_nil] at hp
      refine Ev.succ ?_
      simp only [impl_ties_partsOf.l0]
      refine Ev.neg (by rw [hil, hp]; omega) ?_
      rw [mat_congr (g := tieP f L) fun a b ha _ => by
        unfold tieP
        rw [hp]
        by_cases h : L a = true
        · rw [decide_eq_true (hbc a ha h), h]; simp
        · rw [decide_eq_false (fun hm => h (hbm a hm).2), show L a = false by simpa using h]; simp]
      refine Ev.bind (components_ev n (by omega) _ hE) ?_
      exact last (classesP n (tieP f L) n) [] rfl
    | cons b suf ih =>
      intro pre hp
      have hb := hbm b (by rw [← hp]; simp)
      have hlen : pre.length + suf.length + 1 = (bitsOf (mk n L)).length := by rw [← hp]; simp; omega
      have i1 := ih (pre ++ [b]) (by simpa using hp)
      rw [show (pre ++ [b]).length = pre.length + 1 by simp] at i1
      have rb : rd (intsOf (mk n L)) (pre.length : Int) = (b : Int) := by
        have := rd_mid pre suf b
        rw [hp] at this
        exact this
      refine Ev.succ ?_
      simp only [impl_ties_partsOf.l0]
      refine Ev.pos (by omega) (Ev.pos (by omega) (Ev.pos (by omega) ?_))
      rw [rb]
      refine Ev.pos (by omega) (Ev.pos (by simp; omega) (Ev.pos (by simp; omega) ?_))
      rw [rd_mat n f b hb.1, b_and _ _ (mk62 (by omega) _) (by omega), mk_and, Int.toNat_natCast, mat_row n _ b hb.1, w64' (by omega)]
      have em : mat n (fun a c => if a = b then (f b c && L c) else decide (a ∈ pre) && (f a c && L c)) = mat n (fun a c => decide (a ∈ pre ++ [b]) && (f a c && L c)) := mat_congr fun a c _ _ => by
        by_cases e : a = b
        · subst e; simp
        · rw [if_neg e]; simp [e]
      rw [em]
      exact i1
  simp only [impl_ties_partsOf.f]
  refine Ev.bind (maskOf_ev n (by omega) w (by omega) hw) (Ev.pos (by omega) (Ev.pos (by simp; omega) (Ev.bind (members_ev (mk n L) (by omega)) ?_)))
  have := first (bitsOf (mk n L)) [] rfl
  rw [show (mat n fun a b => decide (a ∈ ([] : List Nat)) && (f a b && L b)) = List.replicate n 0 by
    apply List.ext_getElem
    · simp
    · intro q h1 h2
      simp only [mat, List.getElem_map, List.getElem_range, List.getElem_replicate]
      rw [mk_zero fun c _ => by simp]; rfl] at this
  rw [mat_length, Int.toNat_natCast]
  exact this
end Go.Proofs.YthgapkbkhoeleaaDoor.PAll
