/- For every code, FnPrefixTraces answers true: the trace of a downset of positions is a prefix with as many letters, all positions of the past of a position are in each downset that has it, and a position is concurrent with all others that are neither in its past nor have it in theirs. No condition. -/
import Derived.Test.YtkiacoilecdepaaDoorPAllx1
import Derived.Test.YtkiacoilecdepaaDoorPAllx18
import Derived.Test.YtkiacoilecdepaaDoorPAllx19
import Derived.Test.YtkiacoilecdepaaDoorPAllx20
import Derived.Test.YtkiacoilecdepaaDoorPAllx5
import Derived.Test.YtkiacoilecdepaaDoorV0
import Derived.Test.YtkiacoilecdepaaDoorV1
import Derived.Test.YtkiacoilecdepaaDoorV3
import Derived.Test.YtkiacoilecdepaaDoorV5
import Derived.Test.YtkiacoilecdepaaDoorV9
import Derived.Test.YtkiacoilecdepaaDoorQBase
import Derived.Test.YtkiacoilecdepaaDoorQDraw
import Derived.Test.YtkiacoilecdepaaDoorQMask
import Derived.Test.YtkiacoilecdepaaDoorQMeet
import Derived.Test.YtkiacoilecdepaaDoorQOrder
import Derived.Test.YtkiacoilecdepaaDoorQTrace
import Derived.Test.YtkiacoilecdepaaDoorStmtFnPrefixTraces
set_option linter.unusedVariables false
set_option linter.unusedSimpArgs false
namespace Go.Proofs.YtkiacoilecdepaaDoor.LFnPrefixTraces
open Go.RowKit Go.Proofs.YtkiacoilecdepaaDoorW.PrintWords Go.Proofs.YtkiacoilecdepaaDoorW.PrintMore Go.Proofs.YtkiacoilecdepaaDoor.Q
open Go.Proofs.YtkiacoilecdepaaDoor.PAll
theorem count_pcP : ∀ (n M : Nat), M < 2 ^ n → ((List.range n).filter fun i => M.testBit i).length = pcP M := by
  intro n
  induction n with
  | zero => intro M h; obtain rfl : M = 0 := by omega
            rw [pcP_zero]; rfl
  | succ n ih =>
    intro M h
    rw [Nat.pow_succ] at h
    have i1 := ih (M / 2) (by omega)
    have e : ((List.map Nat.succ (List.range n)).filter fun i => M.testBit i).length = ((List.range n).filter fun i => (M / 2).testBit i).length := by
      rw [List.filter_map, List.length_map]
      congr 1
      exact List.filter_congr fun i _ => Nat.testBit_succ M i
    rw [List.range_succ_eq_map, List.filter_cons]
    by_cases h0 : M = 0
    · subst h0
      rw [pcP_zero]
      simp
    · rw [pcP_pos h0, ← i1, ← e]
      by_cases hb : M.testBit 0 = true
      · rw [if_pos hb, List.length_cons]
        rw [Nat.testBit_zero, decide_eq_true_eq] at hb
        omega
      · rw [if_neg hb]
        rw [Nat.testBit_zero, decide_eq_true_eq] at hb
        omega
theorem bits5_ev : ∀ (n M : Nat) (acc : Nat), M < 2 ^ n → n ≤ 60 → acc + n ≤ 1000 → Ev (fun k => laws_bits5.l0 k (M : Int) (acc : Int)) ((acc + pcP M : Nat) : Int) := by
  intro n
  induction n with
  | zero =>
    intro M acc h _ _
    obtain rfl : M = 0 := by omega
    refine Ev.succ ?_
    simp only [laws_bits5.l0]
    rw [pcP_zero]
    exact Ev.neg (by omega) (Ev.now _)
  | succ n ih =>
    intro M acc h hn ha
    have h60 : (2 : Nat) ^ (n + 1) ≤ 2 ^ 60 := Nat.pow_le_pow_right (by decide) hn
    have h60' : (2 : Nat) ^ 60 = 1152921504606846976 := by decide
    rw [Nat.pow_succ] at h h60
    refine Ev.succ ?_
    simp only [laws_bits5.l0]
    by_cases h0 : M = 0
    · subst h0
      rw [pcP_zero]
      exact Ev.neg (by omega) (Ev.now _)
    · have i1 := ih (M / 2) (acc + M % 2) (by omega) (by omega) (by omega)
      refine Ev.pos (by omega) ?_
      rw [Int.tdiv_eq_ediv_of_nonneg (by omega), Int.tmod_eq_emod_of_nonneg (by omega), w64' (by omega), w64' (by omega), pcP_pos h0, show (M : Int) / 2 = ((M / 2 : Nat) : Int) by omega, show (acc : Int) + (M : Int) % 2 = ((acc + M % 2 : Nat) : Int) by omega]
      exact Ev.val i1 (by congr 1; omega)
theorem draw_l0 (c : List Int) (n : Int) (D : List Int) (f : Nat → Nat → Bool) (N u : List Nat) (hl : u.length ≤ 24) (hN : N.length = u.length) : ∀ (d i : Nat) (mask a h : Int), i + d = u.length → Src c a →
    ∃ m', Ev (fun k => spec_DrawPrefixAt.l0 k (ints u) (mat N.length (ordP f N)) mask (i : Int) c a h n D) (n, D, ints u, m') := by
  intro d
  induction d with
  | zero =>
    intro i mask a h hi hS
    obtain ⟨v1, a1, h1, x1, s1, _⟩ := l01Next_ev hS h 10
    have hstep : ∀ {m'}, Ev (fun k => if v1 = 0 then (spec_l01One.f ((ints u).length : Int)).bind fun t774 => (spec_l01Next.f c a1 h1 t774).bind fun bt775 => some (n, D, ints u, bt775.1) else (if v1 = 1 then (spec_l01One.f ((ints u).length : Int)).bind fun t778 => (spec_l01Pick.f c a1 h1 [-1, t778, 1099511627776]).bind fun bt782 => some (n, D, ints u, bt782.1) else some (n, D, ints u, mask))) (n, D, ints u, m') →
        Ev (fun k => spec_DrawPrefixAt.l0 k (ints u) (mat N.length (ordP f N)) mask (i : Int) c a h n D) (n, D, ints u, m') := fun hh => by
      refine Ev.succ ?_
      simp only [spec_DrawPrefixAt.l0]
      refine Ev.neg (by simp; omega) ?_
      rw [x1]
      exact Ev.some_bind hh
    by_cases g : v1 = 0
    · obtain ⟨v2, a2, h2, x2, s2, _⟩ := l01Next_ev s1 h1 ((2 ^ u.length : Nat) : Int)
      refine ⟨v2, hstep (Ev.pos g ?_)⟩
      rw [ints_length, l01One_eq u.length (by omega)]
      refine Ev.some_bind ?_
      rw [x2]
      exact Ev.some_bind (Ev.now _)
    · by_cases g1 : v1 = 1
      · obtain ⟨v2, a2, h2, x2, s2, _⟩ := l01Pick_ev s1 h1 [-1, ((2 ^ u.length : Nat) : Int), 1099511627776] (by simp)
        refine ⟨v2, hstep (Ev.neg g (Ev.pos g1 ?_))⟩
        rw [ints_length, l01One_eq u.length (by omega)]
        refine Ev.some_bind ?_
        rw [x2]
        exact Ev.some_bind (Ev.now _)
      · exact ⟨mask, hstep (Ev.neg g (Ev.neg g1 (Ev.now _)))⟩
  | succ d ih =>
    intro i mask a h hi hS
    obtain ⟨v1, a1, h1, x1, s1, _⟩ := l01Next_ev hS h 4
    by_cases g : v1 = 0
    · obtain ⟨m', hm'⟩ := ih (i + 1) (Go.bits .or .i64 mask ((mk N.length (fun b => ordP f N b i) : Nat) : Int)) a1 h1 (by omega) s1
      refine ⟨m', Ev.succ ?_⟩
      simp only [spec_DrawPrefixAt.l0]
      refine Ev.pos (by simp; omega) ?_
      rw [x1]
      refine Ev.some_bind (Ev.pos g (Ev.bind (l01Below_ev N.length (by omega) (ordP f N) i (by omega)) ?_))
      rw [w64' (by omega)]
      exact hm'
    · obtain ⟨m', hm'⟩ := ih (i + 1) mask a1 h1 (by omega) s1
      refine ⟨m', Ev.succ ?_⟩
      simp only [spec_DrawPrefixAt.l0]
      refine Ev.pos (by simp; omega) ?_
      rw [x1]
      refine Ev.some_bind (Ev.neg g ?_)
      rw [w64' (by omega)]
      exact hm'
theorem draw_ev (c : List Int) (hb : ∀ x ∈ c, 0 ≤ x ∧ x ≤ 255) (hc : c.length ≤ 4096) : ∃ n D w m, Ev (fun k => spec_DrawPrefixAt.f k c) (n, D, w, m) := by
  obtain ⟨a, h, n, D, w, s0, l0, l1, hd⟩ := l03Pair_ev c hb hc 6 20 (by omega) (by omega)
  have hi := l02Is_ev n D
  by_cases hA : Alpha n D
  · rw [decide_eq_true hA] at hi
    obtain ⟨m, f, rfl, rfl, hm, hs, hr⟩ := hA.form
    have hw := l03Word_ev (m : Int) (by omega) w
    by_cases hW : Word (m : Int) w
    · rw [decide_eq_true hW] at hw
      obtain ⟨u, rfl, hul, hu⟩ := hW.form
      have hnl := normalP_length f hs hu
      obtain ⟨m', hm'⟩ := draw_l0 c (m : Int) (mat m f) f (normalP f m u) u hul hnl u.length 0 0 a h (by omega) s0
      refine ⟨(m : Int), mat m f, ints u, m', ?_⟩
      have his : Ev (fun k => spec_l03Is.f k (m : Int) (mat m f) (ints u)) true := by
        simp only [spec_l03Is.f]
        exact Ev.bind hi (Ev.pos rfl (Ev.bind hw (Ev.now _)))
      simp only [spec_DrawPrefixAt.f]
      refine Ev.bind hd (Ev.bind his (Ev.pos rfl (Ev.bind (l03Normal_ev m (by omega) f u (by omega) hu) (Ev.bind (l04Order_ev m hm f _ (by omega) (normalP_lt f hs hu)) ?_))))
      exact hm'
    · rw [decide_eq_false hW] at hw
      refine ⟨(m : Int), mat m f, w, 1, ?_⟩
      have his : Ev (fun k => spec_l03Is.f k (m : Int) (mat m f) w) false := by
        simp only [spec_l03Is.f]
        exact Ev.bind hi (Ev.pos rfl (Ev.bind hw (Ev.now _)))
      simp only [spec_DrawPrefixAt.f]
      exact Ev.bind hd (Ev.bind his (Ev.neg (by decide) (Ev.now _)))
  · rw [decide_eq_false hA] at hi
    refine ⟨n, D, w, 1, ?_⟩
    have his : Ev (fun k => spec_l03Is.f k n D w) false := by
      simp only [spec_l03Is.f]
      exact Ev.bind hi (Ev.neg (by decide) (Ev.now _))
    simp only [spec_DrawPrefixAt.f]
    exact Ev.bind hd (Ev.bind his (Ev.neg (by decide) (Ev.now _)))
theorem loop_ev (m : Nat) (f : Nat → Nat → Bool) (hm : m ≤ 8) (hs : ∀ a b, f a b = f b a) (hA : Alpha (m : Int) (mat m f)) (u : List Nat) (hul : u.length ≤ 24) (hu : ∀ x ∈ u, x < m) (M : Nat) (hM : M < 2 ^ u.length) (hd : downP (ordP f (normalP f m u)) u.length M = true) :
    ∀ (d i : Nat), i + d = u.length → Ev (fun k => laws_FnPrefixTraces.l0 k (ints u) (M : Int) (mat u.length (ordP f (normalP f m u))) (i : Int) (m : Int) (mat m f)) true := by
  have hd' := (downP_iff _ _ _).1 hd
  have h24 := pow_lt62 hul
  have hle : ∀ i k, ordP f (normalP f m u) i k = true → i ≤ k := fun i k h => clos_le (n := (normalP f m u).length) (fun i k h => (eP_lt h).1) h
  have hrf : ∀ i, ordP f (normalP f m u) i i = true := fun i => clos_refl _ i
  have hP : ∀ x, x < u.length → Ev (fun k => impl_PastOf.f k (m : Int) (mat m f) (ints u) (x : Int)) (((mk u.length (fun a => ordP f (normalP f m u) a x) : Nat) : Int), 0) := fun x hx => PastOf_impl hm hs hA hul hu x hx
  have hC : ∀ x, x < u.length → Ev (fun k => impl_ConcurrentWith.f k (m : Int) (mat m f) (ints u) (x : Int)) (((mk u.length (fun b => !ordP f (normalP f m u) b x && !ordP f (normalP f m u) x b) : Nat) : Int), 0) := fun x hx => ConcurrentWith_impl hm hs hA hul hu x hx
  clear hd
  generalize ordP f (normalP f m u) = g at hd' hle hrf hP hC ⊢
  intro d
  induction d with
  | zero =>
    intro i hi
    refine Ev.succ ?_
    simp only [laws_FnPrefixTraces.l0]
    exact Ev.neg (by simp; omega) (Ev.now _)
  | succ d ih =>
    intro i hi
    have i1 := ih (i + 1) (by omega)
    have hil : i < u.length := by omega
    have e1 : mk u.length (fun a => g a i && g i a) = 2 ^ i := bits_ext fun a => by
      rw [testBit_mk, testBit_one]
      by_cases e : i = a
      · subst e; simp [hil, hrf]
      · rw [decide_eq_false e]
        cases h1 : g a i with
        | false => simp
        | true =>
          cases h2 : g i a with
          | false => simp
          | true => exact absurd (Nat.le_antisymm (hle _ _ h2) (hle _ _ h1)) e
    have e2 : mk u.length (fun a => (g a i || g i a) || (!g a i && !g i a)) = 2 ^ u.length - 1 := by
      rw [mk_full]
      exact mk_congr fun a _ => by cases g a i <;> cases g i a <;> rfl
    have e3 : mk u.length (fun a => (g a i || g i a) && (!g a i && !g i a)) = 0 := mk_zero fun a _ => by cases g a i <;> cases g i a <;> rfl
    have hp := Nat.two_pow_pos u.length
    refine Ev.succ ?_
    simp only [laws_FnPrefixTraces.l0]
    refine Ev.pos (by simp; omega) (Ev.bind (hP i hil) (Ev.bind (hC i hil) (Ev.pos rfl (Ev.succ ?_))))
    simp only [laws_FnPrefixTraces.j4]
    rw [rd_mat u.length g i hil, b_and _ _ (mk62 hul _) (mk62 hul _), mk_and, e1, u64_nat i (by omega), shl_one i (by omega), ints_length, u64_nat u.length (by omega), shl_one u.length (by omega), b_or _ _ (mk62 hul _) (mk62 hul _), mk_or, b_or _ _ (mk62 hul _) (mk62 hul _), mk_or, e2, b_and _ _ (mk62 hul _) (mk62 hul _), mk_and, e3]
    refine Ev.neg (by simp) (Ev.pos (by omega) (Ev.pos (by simp; omega) (Ev.pos (by omega) (Ev.pos rfl (Ev.pos (by omega) (Ev.pos ?_ (Ev.succ ?_)))))))
    · rw [w64' (by omega)]; omega
    · simp only [laws_FnPrefixTraces.j5]
      rw [u64_nat i (by omega), w64' (by omega)]
      refine Ev.neg (by simp) (Ev.pos (by omega) (Ev.ite (fun hbit => Ev.pos ?_ i1) (fun _ => i1)))
      have hMi : M.testBit i = true := by
        rw [← bit_at M i (by omega) (by omega), beq_iff_eq]
        exact hbit
      rw [b_or _ _ (mk62 hul _) (by omega)]
      congr 1
      refine bits_ext fun a => ?_
      rw [Nat.testBit_or, testBit_mk]
      cases h1 : M.testBit a with
      | true => simp
      | false =>
        by_cases ha : a < u.length
        · rw [hd' a ha h1 i hil hMi]; simp
        · simp [ha]
theorem law_ev (c : List Int) (hb : ∀ x ∈ c, 0 ≤ x ∧ x ≤ 255) : Ev (fun k => laws_FnPrefixTraces.f k c) true := by
  simp only [laws_FnPrefixTraces.f, laws_big.f]
  refine Ev.some_bind (Ev.ite (fun _ => Ev.now _) (fun g => ?_))
  obtain ⟨n, D, w, mask, hdr⟩ := draw_ev c hb (by simp at g; omega)
  obtain ⟨r, hrl, h1, h2, h3⟩ := PrefixAt_both n D w mask
  refine Ev.bind hdr (Ev.bind h2 (Ev.bind h1 (Ev.pos rfl (Ev.bind (likeInts_ev r.1 (by omega)) (Ev.succ ?_)))))
  simp only [laws_FnPrefixTraces.j0]
  refine Ev.neg (by simp) (Ev.ite (fun k0 => ?_) (fun _ => Ev.now _))
  obtain ⟨m, f, u, M, rfl, rfl, rfl, rfl, hm, hs, hr, hul, hu, hM, hA, hd, hr1⟩ := h3 k0
  have hnl := normalP_length f hs hu
  have hnt := normalP_lt f hs hu
  have htn := normalP_TrEq f hs _ u rfl hu
  have hlt := lettersP_lt hnt M
  have hll := lettersP_length (normalP f m u) M
  have hpl := normalP_length f hs hlt
  have hpt := normalP_lt f hs hlt
  have htp := normalP_TrEq f hs _ _ rfl hlt
  obtain ⟨q, hq⟩ := lettersP_prefix hs hr hnt (M := M) (by rw [hnl]; exact hd)
  obtain ⟨q', hq', _⟩ := cutP_TrEq_right f hs htn hq
  have hcut : cutP f (normalP f m (lettersP (normalP f m u) M)) u = some q' := by rw [cutP_TrEq f hs htp u]; exact hq'
  have hI := IsPrefix_ok hm hA (show (normalP f m (lettersP (normalP f m u) M)).length ≤ 24 by omega) hpt hul hu
  rw [hcut] at hI
  have h24 := pow_lt62 hul
  have hB : Ev (fun k => laws_bits5.f k (M : Int)) ((pcP M : Nat) : Int) := by
    simp only [laws_bits5.f]
    have := bits5_ev u.length M 0 hM (by omega) (by omega)
    rw [Nat.zero_add] at this
    exact this
  have hcount : (lettersP (normalP f m u) M).length = pcP M := by
    unfold lettersP
    rw [List.length_map, hnl]
    exact count_pcP u.length M hM
  have hO := OrderOf_impl hm hs hA hul hu
  rw [hr1]
  refine Ev.bind hI (Ev.pos rfl (Ev.pos rfl (Ev.bind hB (Ev.succ ?_))))
  simp only [laws_FnPrefixTraces.j1]
  refine Ev.neg (by simp; omega) (Ev.bind hO (Ev.pos rfl (Ev.succ ?_)))
  simp only [laws_FnPrefixTraces.j2]
  exact Ev.neg (by simp) (loop_ev m f hm hs hA u hul hu M hM hd u.length 0 (by omega))
theorem pure : PureStmt := fun c _ h2 => (law_ev c (fun x hx => u8_bounds (h2 x hx))).rounds
end Go.Proofs.YtkiacoilecdepaaDoor.LFnPrefixTraces
