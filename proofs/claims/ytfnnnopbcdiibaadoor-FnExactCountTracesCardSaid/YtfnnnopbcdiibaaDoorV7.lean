import Derived.Test.YtfnnnopbcdiibaaDoorPAllx1
import Derived.Test.YtfnnnopbcdiibaaDoorPAllx11
import Derived.Test.YtfnnnopbcdiibaaDoorPAllx14
import Derived.Test.YtfnnnopbcdiibaaDoorPAllx15
import Derived.Test.YtfnnnopbcdiibaaDoorV0
import Derived.Test.YtfnnnopbcdiibaaDoorV1
import Derived.Test.YtfnnnopbcdiibaaDoorQBase
import Derived.Test.YtfnnnopbcdiibaaDoorQCF
import Derived.Test.YtfnnnopbcdiibaaDoorQDraw
import Derived.Test.YtfnnnopbcdiibaaDoorQMask
import Derived.Test.YtfnnnopbcdiibaaDoorQMeet
import Derived.Test.YtfnnnopbcdiibaaDoorQRev
import Derived.Test.YtfnnnopbcdiibaaDoorQTrace
set_option linter.unusedVariables false
set_option linter.unusedSimpArgs false
namespace Go.Proofs.YtfnnnopbcdiibaaDoor.PAll
open Go.RowKit Go.Proofs.YtfnnnopbcdiibaaDoorW.PrintWords Go.Proofs.YtfnnnopbcdiibaaDoorW.PrintMore Go.Proofs.YtfnnnopbcdiibaaDoor.Q
theorem allLetters_eq (n : Nat) (hn : n ≤ 24) (D : List Int) : impl_allLetters.f (n : Int) D = some ((mk n (fun _ => true) : Nat) : Int) := by
  have h24 := pow_lt62 hn
  have hp := Nat.two_pow_pos n
  unfold impl_allLetters.f
  rw [one_eq n (by omega)]
  simp only [Option.bind_some]
  rw [w64' (by omega), ← mk_full]
  congr 1
  omega
theorem pcP_step (m : Nat) : pcP m = m % 2 + pcP (m / 2) := by
  by_cases h : m = 0
  · subst h
    rw [pcP_zero]
  · exact pcP_pos h
theorem sorted_ext : ∀ {a b : List Int}, a.Pairwise (· < ·) → b.Pairwise (· < ·) → (∀ x, x ∈ a ↔ x ∈ b) → a = b := by
  intro a
  induction a with
  | nil =>
    intro b _ _ h
    cases b with
    | nil => rfl
    | cons y b => exact absurd ((h y).2 (List.mem_cons_self ..)) (by simp)
  | cons x a ih =>
    intro b ha hb h
    cases b with
    | nil => exact absurd ((h x).1 (List.mem_cons_self ..)) (by simp)
    | cons y b =>
      rw [List.pairwise_cons] at ha hb
      have hxy : x = y := by
        rcases List.mem_cons.1 ((h x).1 (List.mem_cons_self ..)) with e | e
        · exact e
        · rcases List.mem_cons.1 ((h y).2 (List.mem_cons_self ..)) with e' | e'
          · exact e'.symm
          · have h1 := hb.1 x e
            have h2 := ha.1 y e'
            omega
      subst hxy
      rw [ih ha.2 hb.2 (fun z => ?_)]
      constructor
      · intro hz
        rcases List.mem_cons.1 ((h z).1 (List.mem_cons_of_mem _ hz)) with e | e
        · have := ha.1 z hz
          omega
        · exact e
      · intro hz
        rcases List.mem_cons.1 ((h z).2 (List.mem_cons_of_mem _ hz)) with e | e
        · have := hb.1 z hz
          omega
        · exact e
theorem sort_eq {L : List Nat} {s : List Nat} (hn : L.Nodup) (hs : s.Pairwise (· < ·)) (h : ∀ x, x ∈ L ↔ x ∈ s) : ((ints L).mergeSort fun x y => decide (x ≤ y)) = ints s := by
  have hp := List.mergeSort_perm (ints L) fun x y => decide (x ≤ y)
  have hle : ((ints L).mergeSort fun x y => decide (x ≤ y)).Pairwise fun x y => decide (x ≤ y) = true := List.pairwise_mergeSort (fun a b c h1 h2 => by simp only [decide_eq_true_eq] at h1 h2 ⊢; omega) (fun a b => by simp only [Bool.or_eq_true, decide_eq_true_eq]; omega) _
  have hnd : ((ints L).mergeSort fun x y => decide (x ≤ y)).Nodup := hp.symm.nodup (List.Pairwise.map _ (fun a b hab e => hab (by exact_mod_cast e)) hn)
  refine sorted_ext (List.Pairwise.imp₂ (fun a b h1 h2 => ?_) hle hnd) (List.Pairwise.map _ (fun a b hab => by omega) hs) (fun x => ?_)
  · have h1' := of_decide_eq_true h1
    omega
  · rw [hp.mem_iff]
    simp only [ints, List.mem_map, h]
theorem grow_ev (n : Nat) (hn : n ≤ 24) (g : Nat → Nat → Bool) : ∀ (N op : Nat), op ≤ N → op < 2 ^ n → ∀ ch : Nat, ch < 2 ^ n → (∀ i, ch.testBit i = true → op.testBit i = false) →
    ∃ L : List Nat, Ev (fun k => impl_growCliques.l0 (mat n g) k (ch : Int) (op : Int)) (ints L) ∧ L.Nodup ∧ ∀ C : Nat, C ∈ L ↔ ∃ S : Nat, S ≠ 0 ∧ (∀ i, S.testBit i = true → op.testBit i = true) ∧ (∀ a b, a < b → S.testBit a = true → S.testBit b = true → g a b = true) ∧ C = ch ||| S := by
  have h62 := pow_lt62 hn
  have h24 := pow24 hn
  intro N
  induction N with
  | zero =>
    intro op h0 _ ch _ _
    obtain rfl : op = 0 := by omega
    refine ⟨[], Ev.succ ?_, List.nodup_nil, fun C => ⟨fun h => absurd h (by simp), ?_⟩⟩
    · simp only [impl_growCliques.l0]
      exact Ev.pos rfl (Ev.now _)
    · rintro ⟨S, hS, hs, _⟩
      exact absurd (bits_ext fun i => by
        rw [Nat.zero_testBit]
        cases h : S.testBit i
        · rfl
        · have := hs i h
          rw [Nat.zero_testBit] at this
          exact this.symm) hS
  | succ N ih =>
    intro op hop hop2 ch hch hd
    by_cases h0 : op = 0
    · exact ih op (by omega) hop2 ch hch hd
    have hlow := lowest op h0 (by omega)
    have hlt := and_pred_lt op h0
    generalize hop' : op &&& (op - 1) = op' at hlow hlt
    generalize hii : Lib.ctz 64 op = i at hlow
    obtain ⟨hi, hbelow, hi64, hbits⟩ := hlow
    have hin : i < n := by
      by_cases c : i < n
      · exact c
      · rw [bit_of_lt hop2 (by omega)] at hi
        exact absurd hi (by simp)
    have hp2 : (2 : Nat) ^ i < 2 ^ n := Nat.pow_lt_pow_right (by decide) hin
    have hci : ch.testBit i = false := by
      cases c : ch.testBit i
      · rfl
      · rw [hd i c] at hi
        exact absurd hi (by simp)
    have hor : ch ||| 2 ^ i < 2 ^ n := Nat.or_lt_two_pow hch hp2
    have hand : op' &&& mk n (g i) ≤ op' := Nat.and_le_left
    obtain ⟨L1, e1, n1, m1⟩ := ih (op' &&& mk n (g i)) (by omega) (by omega) (ch ||| 2 ^ i) hor (fun j hj => by
      rw [Nat.testBit_and, hbits]
      rw [Nat.testBit_or, testBit_one] at hj
      by_cases e : j = i
      · simp [e]
      · rw [decide_eq_false (fun h => e h.symm), Bool.or_false] at hj
        rw [hd j hj]
        rfl)
    obtain ⟨L2, e2, n2, m2⟩ := ih op' (by omega) (by omega) ch hch (fun j hj => by
      rw [hbits, hd j hj]
      rfl)
    have hb1 : Go.bits .or .i64 (ch : Int) ((2 ^ i : Nat) : Int) = ((ch ||| 2 ^ i : Nat) : Int) := b_or ch (2 ^ i) (by omega) (by omega)
    have hb2 : Go.bits .and .i64 (op : Int) (wrap64 ((op : Int) - 1)) = ((op' : Nat) : Int) := by
      rw [w64' (by omega), show (op : Int) - 1 = ((op - 1 : Nat) : Int) by omega, b_and op (op - 1) (by omega) (by omega), hop']
    have hmk := mk_lt n (g i)
    have hb3 : Go.bits .and .i64 (op' : Int) ((mk n (g i) : Nat) : Int) = ((op' &&& mk n (g i) : Nat) : Int) := b_and op' (mk n (g i)) (by omega) (by omega)
    refine ⟨(ch ||| 2 ^ i) :: (L1 ++ L2), Ev.succ ?_, ?_, ?_⟩
    · simp only [impl_growCliques.l0]
      refine Ev.neg (by omega) ?_
      rw [least_eq op (by omega), hii]
      refine Ev.some_bind (Ev.pos (by omega) (Ev.pos (by rw [mat_length]; omega) ?_))
      rw [one_eq i (by omega)]
      refine Ev.some_bind ?_
      rw [hb1, hb2, rd_mat n g i hin, hb3]
      have := Ev.bind e1 (f := fun k xs => (impl_growCliques.l0 (mat n g) k (ch : Int) (op' : Int)).bind fun ys => some (((ch ||| 2 ^ i : Nat) : Int) :: (xs ++ ys))) (Ev.bind e2 (Ev.now _))
      rw [ints_cons, ints_append]
      exact this
    · rw [List.nodup_cons, List.nodup_append]
      refine ⟨?_, n1, n2, ?_⟩
      · intro hm
        rcases List.mem_append.1 hm with hm | hm
        · obtain ⟨S, hS, hs, _, hC⟩ := (m1 _).1 hm
          refine hS (bits_ext fun j => ?_)
          rw [Nat.zero_testBit]
          cases c : S.testBit j
          · rfl
          · have h1 := hs j c
            rw [Nat.testBit_and, hbits] at h1
            have h2 := congrArg (fun z => Nat.testBit z j) hC
            simp only [Nat.testBit_or, testBit_one, c, Bool.or_true] at h2
            simp only [Bool.and_eq_true, decide_eq_true_eq] at h1
            rw [decide_eq_false (fun h => h1.1.2 h.symm), Bool.or_false] at h2
            rw [hd j h2] at h1
            exact absurd h1.1.1 (by simp)
        · obtain ⟨S, hS, hs, _, hC⟩ := (m2 _).1 hm
          have h2 := congrArg (fun z => Nat.testBit z i) hC
          simp only [Nat.testBit_or, testBit_one, decide_true, Bool.or_true, hci, Bool.false_or] at h2
          have h1 := hs i h2.symm
          rw [hbits] at h1
          simp at h1
      · intro a ha b hb hab
        subst hab
        obtain ⟨S, _, _, _, hC⟩ := (m1 _).1 ha
        obtain ⟨T, _, hs, _, hD⟩ := (m2 _).1 hb
        have h2 := congrArg (fun z => Nat.testBit z i) (hC.symm.trans hD)
        simp only [Nat.testBit_or, testBit_one, decide_true, Bool.or_true, Bool.true_or, hci, Bool.false_or] at h2
        have h1 := hs i h2.symm
        rw [hbits] at h1
        simp at h1
    · intro C
      rw [List.mem_cons, List.mem_append, m1, m2]
      constructor
      · rintro (rfl | ⟨S, hS, hs, hc, rfl⟩ | ⟨S, hS, hs, hc, rfl⟩)
        · refine ⟨2 ^ i, by have := Nat.two_pow_pos i; omega, fun j hj => ?_, fun a b hab ha hb => ?_, rfl⟩
          · rw [testBit_one] at hj
            rw [← of_decide_eq_true hj]
            exact hi
          · rw [testBit_one] at ha hb
            have h1 := of_decide_eq_true ha
            have h2 := of_decide_eq_true hb
            omega
        · refine ⟨2 ^ i ||| S, fun h => hS ?_, fun j hj => ?_, fun a b hab ha hb => ?_, by rw [Nat.or_assoc]⟩
          · refine bits_ext fun j => ?_
            have := congrArg (fun z => Nat.testBit z j) h
            simp only [Nat.testBit_or, Nat.zero_testBit, Bool.or_eq_false_iff] at this
            rw [this.2, Nat.zero_testBit]
          · rw [Nat.testBit_or, testBit_one, Bool.or_eq_true, decide_eq_true_eq] at hj
            rcases hj with rfl | hj
            · exact hi
            · have := hs j hj
              rw [Nat.testBit_and, hbits] at this
              simp only [Bool.and_eq_true] at this
              exact this.1.1
          · rw [Nat.testBit_or, testBit_one, Bool.or_eq_true, decide_eq_true_eq] at ha hb
            have hS' : ∀ j, S.testBit j = true → i < j ∧ g i j = true := fun j hj => by
              have := hs j hj
              rw [Nat.testBit_and, hbits, testBit_mk] at this
              simp only [Bool.and_eq_true, decide_eq_true_eq] at this
              refine ⟨?_, this.2.2⟩
              by_cases c : j < i
              · rw [hbelow j c] at this
                exact absurd this.1.1 (by simp)
              · have := this.1.2
                omega
            rcases ha with rfl | ha
            · rcases hb with rfl | hb
              · omega
              · exact (hS' b hb).2
            · rcases hb with rfl | hb
              · have := (hS' a ha).1
                omega
              · exact hc a b hab ha hb
        · refine ⟨S, hS, fun j hj => ?_, hc, rfl⟩
          have := hs j hj
          rw [hbits] at this
          simp only [Bool.and_eq_true] at this
          exact this.1
      · rintro ⟨S, hS, hs, hc, rfl⟩
        by_cases c : S.testBit i = true
        · by_cases z : S = 2 ^ i
          · exact .inl (by rw [z])
          · have hSn : ∀ j, S.testBit j = true → j < n := fun j hj => by
              by_cases q : j < n
              · exact q
              · have := hs j hj
                rw [bit_of_lt hop2 (by omega)] at this
                exact absurd this (by simp)
            have hb : ∀ j, (mk n fun j => S.testBit j && !decide (j = i)).testBit j = (S.testBit j && !decide (j = i)) := fun j => by
              rw [testBit_mk]
              cases q : S.testBit j
              · simp
              · rw [decide_eq_true (hSn j q), Bool.true_and]
            refine .inr (.inl ⟨mk n fun j => S.testBit j && !decide (j = i), fun h => z (bits_ext fun j => ?_), fun j hj => ?_, fun a b hab ha hb' => ?_, bits_ext fun j => ?_⟩)
            · have h1 := hb j
              rw [h, Nat.zero_testBit] at h1
              rw [testBit_one]
              by_cases e : j = i
              · subst e
                rw [c]
                simp
              · simp only [e, decide_false, Bool.not_false, Bool.and_true] at h1
                rw [← h1, decide_eq_false (fun h => e h.symm)]
            · rw [hb, Bool.and_eq_true, Bool.not_eq_true', decide_eq_false_iff_not] at hj
              rw [Nat.testBit_and, hbits, testBit_mk, hs j hj.1, decide_eq_true hj.2, decide_eq_true (hSn j hj.1)]
              have hij : i < j := by
                by_cases q : j < i
                · have := hs j hj.1
                  rw [hbelow j q] at this
                  exact absurd this (by simp)
                · have := hj.2
                  omega
              rw [hc i j hij c hj.1]
              rfl
            · rw [hb, Bool.and_eq_true] at ha hb'
              exact hc a b hab ha.1 hb'.1
            · rw [Nat.testBit_or, Nat.testBit_or, Nat.testBit_or, hb, testBit_one]
              by_cases e : j = i
              · subst e
                simp [c]
              · have e' : ¬ i = j := fun h => e h.symm
                simp [e, e']
        · refine .inr (.inr ⟨S, hS, fun j hj => ?_, hc, rfl⟩)
          have e' : j ≠ i := fun e => c (by rw [← e]; exact hj)
          rw [hbits, hs j hj]
          simp [e']
theorem mat_row1 (n : Nat) (h h' : Nat → Nat → Bool) (i : Nat) (hi : i < n) (v : Nat) (hv : v = mk n (h' i)) (ho : ∀ a b, a < n → b < n → a ≠ i → h a b = h' a b) : (mat n h).set i (v : Int) = mat n h' := by
  apply List.ext_getElem
  · simp
  · intro q h1 h2
    have hq : q < n := by simpa using h2
    rw [List.getElem_set]
    by_cases e : i = q
    · subst e
      rw [if_pos rfl]
      simp [mat, hv]
    · rw [if_neg e]
      simp only [mat, List.getElem_map, List.getElem_range]
      rw [mk_congr (fun b hb => ho q b hq hb (fun g => e g.symm))]
theorem mutual_ev (n : Nat) (hn : n ≤ 24) (f : Nat → Nat → Bool) : Ev (fun k => impl_mutual.f k (mat n f)) (mat n fun a b => f b a && (f a b && !decide (b = a))) := by
  have h62 := pow_lt62 hn
  have loop : ∀ (d i : Nat), i + d = n → Ev (fun k => impl_mutual.l0 k (mat n f) (mat n fun a b => f b a && (decide (i ≤ a) || (f a b && !decide (b = a)))) (n : Int) (i : Int)) (mat n fun a b => f b a && (f a b && !decide (b = a))) := by
    intro d
    induction d with
    | zero =>
      intro i hi
      refine Ev.succ ?_
      simp only [impl_mutual.l0]
      refine Ev.neg (by omega) ?_
      rw [mat_congr (f := fun a b => f b a && (decide (i ≤ a) || (f a b && !decide (b = a)))) (g := fun a b => f b a && (f a b && !decide (b = a))) (fun a b ha hb => by rw [decide_eq_false (by omega : ¬ i ≤ a), Bool.false_or])]
      exact Ev.now _
    | succ d ih =>
      intro i hi
      have hin : i < n := by omega
      have hp2 : (2 : Nat) ^ i < 2 ^ n := Nat.pow_lt_pow_right (by decide) hin
      have := ih (i + 1) (by omega)
      refine Ev.succ ?_
      simp only [impl_mutual.l0]
      refine Ev.pos (by omega) (Ev.pos (by omega) (Ev.pos (by rw [mat_length]; omega) (Ev.pos (by rw [mat_length]; omega) ?_)))
      rw [one_eq i (by omega)]
      refine Ev.some_bind ?_
      have h1 := mk_lt n (f i)
      have h2 := mk_lt n fun b => f b i && (decide (i ≤ i) || (f i b && !decide (b = i)))
      have h3 := without_le (mk n (f i)) (2 ^ i)
      rw [rd_mat n _ i hin, rd_mat n _ i hin, b_andNot _ _ (by omega) (by omega), b_and _ _ (by omega) (by omega), Int.toNat_natCast, mat_row1 n _ (fun a b => f b a && (decide (i + 1 ≤ a) || (f a b && !decide (b = a)))) i hin _ ?_ ?_, w64' (by omega)]
      · exact this
      · refine bits_ext fun j => ?_
        rw [Nat.testBit_and, testBit_without _ _ _ (by omega) (by omega), testBit_mk, testBit_mk, testBit_mk, testBit_one]
        by_cases e : j = i
        · subst e
          simp
        · have e' : ¬ i = j := fun h => e h.symm
          simp only [e, e', decide_false, Nat.le_refl, decide_true, Bool.true_or, Bool.and_true, Bool.not_false, show ¬ i + 1 ≤ i by omega, Bool.false_or]
          cases decide (j < n) <;> cases f j i <;> cases f i j <;> rfl
      · intro a b ha hb hai
        by_cases e : i ≤ a
        · rw [decide_eq_true e, decide_eq_true (show i + 1 ≤ a by omega)]
        · rw [decide_eq_false e, decide_eq_false (show ¬ i + 1 ≤ a by omega)]
  simp only [impl_mutual.f]
  refine Ev.bind (converse_ev n hn f) ?_
  rw [mat_length]
  have := loop n 0 (by omega)
  rw [mat_congr (f := fun a b => f b a && (decide (0 ≤ a) || (f a b && !decide (b = a)))) (g := fun a b => f b a) (fun a b ha hb => by rw [decide_eq_true (Nat.zero_le a), Bool.true_or, Bool.and_true])] at this
  exact this
theorem complement_ev (n : Nat) (hn : n ≤ 24) (f : Nat → Nat → Bool) : Ev (fun k => impl_complement.f k (n : Int) (mat n f)) ((n : Int), mat n fun a b => !f a b || decide (a = b)) := by
  have h62 := pow_lt62 hn
  have loop : ∀ (d i : Nat), i + d = n → Ev (fun k => impl_complement.l0 k (mat n f) (n : Int) (i : Int) (n : Int) (mat n f) (n : Int) ((List.range i).map fun a => ((mk n (fun b => !f a b || decide (a = b)) : Nat) : Int))) ((n : Int), mat n fun a b => !f a b || decide (a = b)) := by
    intro d
    induction d with
    | zero =>
      intro i hi
      obtain rfl : i = n := by omega
      refine Ev.succ ?_
      simp only [impl_complement.l0]
      exact Ev.neg (by omega) (Ev.now _)
    | succ d ih =>
      intro i hi
      have hin : i < n := by omega
      have hp2 : (2 : Nat) ^ i < 2 ^ n := Nat.pow_lt_pow_right (by decide) hin
      have := ih (i + 1) (by omega)
      refine Ev.succ ?_
      simp only [impl_complement.l0]
      refine Ev.pos (by omega) (Ev.pos (by omega) (Ev.pos (by rw [mat_length]; omega) ?_))
      rw [allLetters_eq n hn]
      refine Ev.some_bind ?_
      rw [one_eq i (by omega)]
      refine Ev.some_bind (Ev.pos (by simp; omega) ?_)
      have h1 := mk_lt n (f i)
      have h2 := mk_lt n fun _ => true
      have h3 := without_le (mk n fun _ => true) (mk n (f i))
      rw [rd_mat n _ i hin, b_andNot _ _ (by omega) (by omega), b_or _ _ (by omega) (by omega), w64' (by omega)]
      have e : without (mk n fun _ => true) (mk n (f i)) ||| 2 ^ i = mk n fun b => !f i b || decide (i = b) := bits_ext fun j => by
        rw [Nat.testBit_or, testBit_without _ _ _ (by omega) (by omega), testBit_mk, testBit_mk, testBit_mk, testBit_one]
        by_cases q : i = j
        · subst q
          simp [hin]
        · simp only [q, decide_false, Bool.or_false]
          cases decide (j < n) <;> cases f i j <;> rfl
      rw [e]
      rw [List.range_succ, List.map_append] at this
      exact this
  simp only [impl_complement.f]
  rw [mat_length]
  exact loop n 0 (by omega)
theorem stepsOf_ev (n : Nat) (hn : n ≤ 8) (f : Nat → Nat → Bool) (hs : ∀ a b, f a b = f b a) (hr : ∀ a, a < n → f a a = true) : Ev (fun k => impl_stepsOf.f k (n : Int) (mat n f)) (ints (stepsP n f)) := by
  have h8 : (2 : Nat) ^ n ≤ 2 ^ 8 := Nat.pow_le_pow_right (by decide) hn
  have h24 : n ≤ 24 := by omega
  have hpos := Nat.two_pow_pos n
  simp only [impl_stepsOf.f]
  refine Ev.bind (complement_ev n h24 f) ?_
  simp only [impl_cliques.f]
  obtain ⟨L, he, hn1, hm⟩ := grow_ev n h24 (fun a b => (!f b a || decide (b = a)) && ((!f a b || decide (a = b)) && !decide (b = a))) (2 ^ n - 1) (2 ^ n - 1) (Nat.le_refl _) (by omega) 0 hpos (fun i h => by rw [Nat.zero_testBit] at h; exact absurd h (by simp))
  have hmem : ∀ C, C ∈ 0 :: L ↔ C ∈ stepsP n f := fun C => by
    simp only [stepsP, List.mem_filter, List.mem_range, List.mem_cons, hm, stepP_iff n f hr]
    constructor
    · rintro (rfl | ⟨S, _, h1, h2, rfl⟩)
      · exact ⟨hpos, fun a b _ _ h => by rw [Nat.zero_testBit] at h; exact absurd h (by simp)⟩
      · rw [Nat.zero_or]
        refine ⟨lt_of_bits fun i hi => ?_, fun a b ha hb hSa hSb hab => ?_⟩
        · cases c : S.testBit i
          · rfl
          · have := h1 i c
            rw [testBit_full] at this
            have := of_decide_eq_true this
            omega
        · rcases Nat.lt_or_gt_of_ne hab with q | q
          · have := h2 a b q hSa hSb
            simp only [Bool.and_eq_true, Bool.or_eq_true, Bool.not_eq_true', decide_eq_true_eq, decide_eq_false_iff_not] at this
            rcases this.2.1 with z | z
            · exact z
            · exact absurd z hab
          · have := h2 b a q hSb hSa
            simp only [Bool.and_eq_true, Bool.or_eq_true, Bool.not_eq_true', decide_eq_true_eq, decide_eq_false_iff_not] at this
            rcases this.1 with z | z
            · exact z
            · exact absurd z hab
    · rintro ⟨h1, h2⟩
      by_cases z : C = 0
      · exact .inl z
      · refine .inr ⟨C, z, fun i hi => ?_, fun a b hab ha hb => ?_, by rw [Nat.zero_or]⟩
        · rw [testBit_full]
          refine decide_eq_true ?_
          by_cases q : i < n
          · exact q
          · rw [bit_of_lt h1 (by omega)] at hi
            exact absurd hi (by simp)
        · have hlt : ∀ i, C.testBit i = true → i < n := fun i hi => by
            by_cases q : i < n
            · exact q
            · rw [bit_of_lt h1 (by omega)] at hi
              exact absurd hi (by simp)
          have e1 := h2 a b (hlt a ha) (hlt b hb) ha hb (by omega)
          have e2 : f b a = false := (hs b a).trans e1
          simp [e1, e2, show ¬ b = a by omega]
  have hnd : (0 :: L).Nodup := by
    refine List.nodup_cons.2 ⟨fun h => ?_, hn1⟩
    obtain ⟨S, h0, _, _, h3⟩ := (hm 0).1 h
    rw [Nat.zero_or] at h3
    exact h0 h3.symm
  have hsort := sort_eq hnd (List.Pairwise.filter (stepP n f) List.pairwise_lt_range) hmem
  have hlen : L.length + 1 ≤ 2 ^ n := by
    have h1 := congrArg List.length hsort
    rw [List.length_mergeSort, ints_length, ints_length] at h1
    have h2 := List.length_filter_le (stepP n f) (List.range (2 ^ n))
    rw [List.length_range] at h2
    rw [List.length_cons] at h1
    omega
  refine Ev.bind (f := fun k (b : List Int × Int) => some b.1) (a := (ints (stepsP n f), 0)) ?_ (Ev.now _)
  refine Ev.bind (mutual_ev n h24 _) ?_
  simp only [impl_length_int64.f]
  refine Ev.some_bind ?_
  rw [mat_length, one_eq n (by omega)]
  refine Ev.some_bind ?_
  rw [w64' (by omega), show ((2 ^ n : Nat) : Int) - 1 = ((2 ^ n - 1 : Nat) : Int) by omega]
  refine Ev.bind he (Ev.pos (by rw [ints_length]; omega) ?_)
  rw [ints_cons] at hsort
  rw [show (0 : Int) = ((0 : Nat) : Int) from rfl, hsort]
  exact Ev.now _
theorem size_eq (m : Nat) (hm : m < 256) : impl_size.f (m : Int) = some ((pcP m : Nat) : Int) := by
  have h1 : ∀ m : Nat, m < 256 → pcP m = m % 2 + (m / 2 % 2 + (m / 4 % 2 + (m / 8 % 2 + (m / 16 % 2 + (m / 32 % 2 + (m / 64 % 2 + m / 128 % 2)))))) := fun m hm => by
    rw [pcP_step m, pcP_step (m / 2), pcP_step (m / 2 / 2), pcP_step (m / 2 / 2 / 2), pcP_step (m / 2 / 2 / 2 / 2), pcP_step (m / 2 / 2 / 2 / 2 / 2), pcP_step (m / 2 / 2 / 2 / 2 / 2 / 2), pcP_step (m / 2 / 2 / 2 / 2 / 2 / 2 / 2)]
    rw [show m / 2 / 2 / 2 / 2 / 2 / 2 / 2 / 2 = 0 by omega, pcP_zero]
    omega
  rw [h1 m hm]
  have h2 : ((List.range 256).all fun m => impl_size.f (m : Int) == some ((m % 2 + (m / 2 % 2 + (m / 4 % 2 + (m / 8 % 2 + (m / 16 % 2 + (m / 32 % 2 + (m / 64 % 2 + m / 128 % 2)))))) : Nat) : Int)) = true := by kernel_rfl
  exact beq_iff_eq.1 (List.all_eq_true.1 h2 m (List.mem_range.2 hm))
theorem rd_snoc1 (l : List Int) (i : Nat) : rd (l ++ [0]) (i : Int) = rd l (i : Int) := by
  rw [rd_nat, rd_nat, List.getD_eq_getElem?_getD, List.getD_eq_getElem?_getD]
  rcases Nat.lt_trichotomy i l.length with h | h | h
  · rw [List.getElem?_append_left h]
  · rw [h, List.getElem?_append_right (Nat.le_refl _), List.getElem?_eq_none (Nat.le_refl _)]; simp
  · rw [List.getElem?_append_right (by omega), List.getElem?_eq_none (by simp; omega), List.getElem?_eq_none (by omega)]
theorem rd_zeros (l : List Int) (y i : Nat) : rd (l ++ List.replicate y 0) (i : Int) = rd l (i : Int) := by
  induction y with
  | zero => simp
  | succ y ihy => rw [List.replicate_succ', ← List.append_assoc, rd_snoc1, ihy]
theorem addK_bd (out : List Int) (B : Int) (hB : 0 ≤ B) (m : Nat) (hb : ∀ i : Nat, -B ≤ rd out (i : Int) ∧ rd out (i : Int) ≤ B) : ∀ i : Nat, -(B + 1) ≤ rd (addK out m) (i : Int) ∧ rd (addK out m) (i : Int) ≤ B + 1 := fun i => by
  have hb1 := hb i
  have hb2 := hb m
  unfold addK
  rw [rd_nat, List.getD_eq_getElem?_getD]
  by_cases hi : m = i
  · subst hi
    rw [List.getElem?_set_self (by simp; omega)]
    simp only [Option.getD_some]
    omega
  · rw [List.getElem?_set_ne hi, ← List.getD_eq_getElem?_getD, ← rd_nat, rd_zeros]
    omega
theorem poly_l0 (ms : List Nat) (hl : ms.length ≤ 256) (hms : ∀ m ∈ ms, m < 256) : ∀ (suf pre : List Nat) (out : List Int), pre ++ suf = ms → out.length ≤ 100 → (∀ i : Nat, -(pre.length : Int) ≤ rd out (i : Int) ∧ rd out (i : Int) ≤ (pre.length : Int)) →
    Ev (fun k => impl_cliquePolynomial.l0 k out (ints ms) (ms.length : Int) (pre.length : Int)) (suf.foldl (fun out m => addK out (pcP m)) out) ∧ ∀ i : Nat, -(ms.length : Int) ≤ rd (suf.foldl (fun out m => addK out (pcP m)) out) (i : Int) ∧ rd (suf.foldl (fun out m => addK out (pcP m)) out) (i : Int) ≤ (ms.length : Int) := by
  intro suf
  induction suf with
  | nil =>
    intro pre out hp ho hb
    rw [List.append_nil] at hp
    subst hp
    refine ⟨Ev.succ ?_, hb⟩
    simp only [impl_cliquePolynomial.l0]
    exact Ev.neg (by omega) (Ev.now _)
  | cons m suf ih =>
    intro pre out hp ho hb
    have hlen : pre.length + suf.length + 1 = ms.length := by rw [← hp]; simp; omega
    have hm : m < 256 := hms m (by simp [← hp])
    have hpc := pcP_le 8 m hm
    obtain ⟨h1, h2⟩ := ih (pre ++ [m]) (addK out (pcP m)) (by simpa using hp) (by rw [addK_length]; omega) (fun i => by
      have := addK_bd out (pre.length : Int) (by omega) (pcP m) hb i
      simp only [List.length_append, List.length_cons, List.length_nil]
      omega)
    rw [List.foldl_cons]
    refine ⟨Ev.succ ?_, h2⟩
    simp only [impl_cliquePolynomial.l0]
    refine Ev.pos (by omega) (Ev.pos (by omega) (Ev.pos (by rw [ints_length]; omega) ?_))
    have r1 : rd (ints ms) (pre.length : Int) = (m : Int) := by rw [← hp]; exact rd_mid pre suf m
    rw [r1]
    have inner : ∀ (e z : Nat), z + e = pcP m + 1 - out.length → Ev (fun k => impl_cliquePolynomial.l1 k (out ++ List.replicate z 0) (m : Int) (ints ms) (ms.length : Int) (pre.length : Int)) (suf.foldl (fun out m => addK out (pcP m)) (addK out (pcP m))) := by
      intro e
      induction e with
      | zero =>
        intro z hz
        have hz' : z = pcP m + 1 - out.length := by omega
        refine Ev.succ ?_
        simp only [impl_cliquePolynomial.l1, impl_length_int64.f, size_eq m hm]
        refine Ev.some_bind (Ev.some_bind (Ev.neg (by simp; omega) (Ev.some_bind (Ev.pos (by omega) (Ev.pos (by simp; omega) (Ev.some_bind ?_))))))
        have hb1 := hb (pcP m)
        have e2 : Int.tmod ((pcP m : Nat) : Int) 2 = ((pcP m % 2 : Nat) : Int) := by rw [Int.tmod_eq_emod_of_nonneg (by omega)]; omega
        rw [rd_zeros, e2, w64' (x := 2 * ((pcP m % 2 : Nat) : Int)) (by omega), w64' (x := 1 - 2 * ((pcP m % 2 : Nat) : Int)) (by omega), w64' (x := rd out ((pcP m : Nat) : Int) + (1 - 2 * ((pcP m % 2 : Nat) : Int))) (by omega), w64' (x := (pre.length : Int) + 1) (by omega), Int.toNat_natCast]
        rw [show (pre ++ [m]).length = pre.length + 1 by simp] at h1
        unfold addK at h1 ⊢
        rw [← hz'] at h1 ⊢
        rw [show rd out ((pcP m : Nat) : Int) + (1 - 2 * ((pcP m % 2 : Nat) : Int)) = rd out ((pcP m : Nat) : Int) + 1 - 2 * ((pcP m % 2 : Nat) : Int) by omega]
        exact h1
      | succ e ihe =>
        intro z hz
        refine Ev.succ ?_
        simp only [impl_cliquePolynomial.l1, impl_length_int64.f, size_eq m hm]
        refine Ev.some_bind (Ev.some_bind (Ev.pos (by simp; omega) (Ev.pos (by simp; omega) ?_)))
        have := ihe (z + 1) (by omega)
        rw [List.replicate_succ', ← List.append_assoc] at this
        exact this
    have := inner (pcP m + 1 - out.length) 0 (by omega)
    simpa using this
theorem poly_ev (n : Nat) (hn : n ≤ 8) (f : Nat → Nat → Bool) (hs : ∀ a b, f a b = f b a) (hr : ∀ a, a < n → f a a = true) : Ev (fun k => impl_cliquePolynomial.f k (n : Int) (mat n f)) (cliqueP (stepsP n f)) ∧ ∀ x ∈ cliqueP (stepsP n f), -1000 ≤ x ∧ x ≤ 1000 := by
  have h8 : (2 : Nat) ^ n ≤ 2 ^ 8 := Nat.pow_le_pow_right (by decide) hn
  have hl := List.length_filter_le (stepP n f) (List.range (2 ^ n))
  rw [List.length_range] at hl
  obtain ⟨h1, h2⟩ := poly_l0 (stepsP n f) (by unfold stepsP; omega) (fun m hm => by have := List.mem_range.1 (List.mem_filter.1 hm).1; omega) (stepsP n f) [] [] rfl (by simp) (fun i => by rw [rd_nat]; simp)
  refine ⟨?_, fun x hx => ?_⟩
  · simp only [impl_cliquePolynomial.f]
    refine Ev.bind (stepsOf_ev n hn f hs hr) ?_
    rw [ints_length]
    exact h1
  · obtain ⟨i, hi, rfl⟩ := List.getElem_of_mem hx
    have h3 := h2 i
    have e : rd (cliqueP (stepsP n f)) (i : Int) = (cliqueP (stepsP n f))[i] := by
      rw [rd_nat, List.getD_eq_getElem?_getD, List.getElem?_eq_getElem hi]
      rfl
    have h4 : (stepsP n f).length ≤ 256 := by unfold stepsP; omega
    rw [← e]
    show _ ≤ rd (List.foldl _ [] _) _ ∧ rd (List.foldl _ [] _) _ ≤ _
    omega
end Go.Proofs.YtfnnnopbcdiibaaDoor.PAll
