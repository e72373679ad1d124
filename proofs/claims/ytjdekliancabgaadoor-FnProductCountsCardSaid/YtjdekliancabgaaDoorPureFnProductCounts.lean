/- For every code, FnProductCounts answers true: the clique polynomial of a direct product is the product of those of its factors, and that of a free product their sum less 1. No condition. -/
import Derived.Test.YtjdekliancabgaaDoorPAllx1
import Derived.Test.YtjdekliancabgaaDoorPAllx10
import Derived.Test.YtjdekliancabgaaDoorPAllx7
import Derived.Test.YtjdekliancabgaaDoorPAllx8
import Derived.Test.YtjdekliancabgaaDoorPAllx9
import Derived.Test.YtjdekliancabgaaDoorV0
import Derived.Test.YtjdekliancabgaaDoorV1
import Derived.Test.YtjdekliancabgaaDoorV2
import Derived.Test.YtjdekliancabgaaDoorQBase
import Derived.Test.YtjdekliancabgaaDoorQDraw
import Derived.Test.YtjdekliancabgaaDoorQPoly
import Derived.Test.YtjdekliancabgaaDoorQProd
import Derived.Test.YtjdekliancabgaaDoorQRev
import Derived.Test.YtjdekliancabgaaDoorQTrace
import Derived.Test.YtjdekliancabgaaDoorStmtFnProductCounts
set_option linter.unusedVariables false
set_option linter.unusedSimpArgs false
namespace Go.Proofs.YtjdekliancabgaaDoor.LFnProductCounts
open Go.RowKit Go.Proofs.YtjdekliancabgaaDoorW.PrintWords Go.Proofs.YtjdekliancabgaaDoorW.PrintMore Go.Proofs.YtjdekliancabgaaDoor.Q
open Go.Proofs.YtjdekliancabgaaDoor.PAll
theorem alpha_mat {m : Nat} (hm : m ≤ 8) {f : Nat → Nat → Bool} (hs : ∀ a b, f a b = f b a) (hr : ∀ a, a < m → f a a = true) : Alpha (m : Int) (mat m f) := by
  refine ⟨⟨by omega, by omega⟩, by simp, fun x hx => ?_, fun a ha => ?_⟩
  · unfold mat at hx
    obtain ⟨i, _, rfl⟩ := List.mem_map.1 hx
    have := mk_lt m (f i)
    rw [mat_length]
    exact ⟨by omega, by exact_mod_cast this⟩
  · rw [mat_length] at ha ⊢
    refine ⟨by rw [bitR_mat m f a a ha ha]; exact hr a ha, fun b hb => ?_⟩
    rw [bitR_mat m f a b ha hb, bitR_mat m f b a hb ha]
    exact hs a b
theorem rd_out (l : List Int) (t : Nat) (h : l.length ≤ t) : rd l (t : Int) = 0 := by
  rw [rd_nat, List.getD_eq_getElem?_getD, List.getElem?_eq_none h]; rfl
theorem poly_ok {m : Nat} (hm : m ≤ 8) {f : Nat → Nat → Bool} (hs : ∀ a b, f a b = f b a) (hr : ∀ a, a < m → f a a = true) :
    Ev (fun k => impl_CliquePolynomial.f k (m : Int) (mat m f)) (cliqueP (stepsP m f), 0) ∧ (cliqueP (stepsP m f)).length ≤ 100 ∧ ∀ t : Nat, -1000 ≤ rd (cliqueP (stepsP m f)) (t : Int) ∧ rd (cliqueP (stepsP m f)) (t : Int) ≤ 1000 := by
  have hA := IsAlphabet_ev (m : Int) (mat m f)
  rw [decide_eq_true (alpha_mat hm hs hr)] at hA
  obtain ⟨hp1, hp2⟩ := poly_ev m hm f hs hr
  refine ⟨?_, ?_, fun t => ?_⟩
  · simp only [impl_CliquePolynomial.f]
    exact Ev.bind hA (Ev.pos rfl (Ev.bind hp1 (Ev.now _)))
  · obtain ⟨_, x, hx, e⟩ := clique_len (List.ne_nil_of_mem (steps_zero hr))
    have h8 : (2 : Nat) ^ m ≤ 2 ^ 8 := Nat.pow_le_pow_right (by decide) hm
    have hlt := stepsP_lt x hx
    have := pcP_le 8 x (by omega)
    omega
  · by_cases g : t < (cliqueP (stepsP m f)).length
    · rw [rd_lt _ t g]
      exact hp2 _ (List.getElem_mem g)
    · rw [rd_out _ t (by omega)]
      omega
section
variable (p q b : List Int) (hp : p.length ≤ 100) (hq : q.length ≤ 100) (hb : b.length ≤ 100) (Bp : ∀ t : Nat, -1000 ≤ rd p (t : Int) ∧ rd p (t : Int) ≤ 1000) (Bq : ∀ t : Nat, -1000 ≤ rd q (t : Int) ∧ rd q (t : Int) ≤ 1000) (Bb : ∀ t : Nat, -1000 ≤ rd b (t : Int) ∧ rd b (t : Int) ≤ 1000)
  (H : ∀ t : Nat, rd b (t : Int) - rd p (t : Int) - rd q (t : Int) = if t = 0 then -1 else 0)
include hp hq hb Bp Bq Bb H
theorem l3_ev : ∀ (d t : Nat), t + d = 100 → Ev (fun k => laws_FnProductCounts.l3 k p q b (t : Int)) true := by
  intro d
  induction d with
  | zero =>
    intro t ht
    refine Ev.succ ?_
    simp only [laws_FnProductCounts.l3]
    refine Ev.neg (by omega) (Ev.neg (by omega) ?_)
    rw [decide_eq_false (by omega)]
    refine Ev.succ ?_
    simp only [laws_FnProductCounts.j6]
    exact Ev.neg (by decide) (Ev.now _)
  | succ d ih =>
    intro t ht
    have nx := ih (t + 1) (by omega)
    have ht' := H t
    have b1 := Bp t
    have b2 := Bq t
    have b3 := Bb t
    have nx' : Ev (fun k => laws_FnProductCounts.l3 k p q b (wrap64 ((t : Int) + 1))) true := by
      rw [w64' (by omega), show (t : Int) + 1 = ((t + 1 : Nat) : Int) by omega]
      exact nx
    have J8 : Ev (fun k => laws_FnProductCounts.j8 k p q b (t : Int) (rd b (t : Int) - rd p (t : Int))) true := by
      refine Ev.succ ?_
      simp only [laws_FnProductCounts.j8]
      rw [w64' (by omega), ht']
      have g3 : ¬ t < q.length → rd b (t : Int) - rd p (t : Int) = if t = 0 then -1 else 0 := fun g => by rw [rd_out q t (by omega)] at ht'; omega
      refine Ev.ite (fun c1 => Ev.pos (by omega) (Ev.ite (fun c2 => ?_) (fun c2 => ?_))) (fun c1 => Ev.ite (fun c2 => ?_) (fun c2 => ?_))
      · obtain rfl : t = 0 := by omega
        exact Ev.pos rfl (Ev.neg (by omega) nx')
      · exact Ev.pos (by omega) (Ev.pos (if_neg (by omega)) nx')
      · rw [g3 (by omega)]
        obtain rfl : t = 0 := by omega
        exact Ev.pos rfl (Ev.neg (by omega) nx')
      · rw [g3 (by omega)]
        exact Ev.pos (by omega) (Ev.pos (if_neg (by omega)) nx')
    have J7 : Ev (fun k => laws_FnProductCounts.j7 k p q b (t : Int) (rd b (t : Int))) true := by
      refine Ev.succ ?_
      simp only [laws_FnProductCounts.j7]
      rw [w64' (by omega)]
      refine Ev.ite (fun c1 => Ev.pos (by omega) J8) (fun c1 => ?_)
      have := rd_out p t (by omega)
      rw [this, Int.sub_zero] at J8
      exact J8
    have J6 : Ev (fun k => laws_FnProductCounts.j6 k p q b (t : Int) true) true := by
      refine Ev.succ ?_
      simp only [laws_FnProductCounts.j6]
      refine Ev.pos trivial (Ev.ite (fun c1 => Ev.pos (by omega) J7) (fun c1 => ?_))
      have := rd_out b t (by omega)
      rw [this] at J7
      exact J7
    refine Ev.succ ?_
    simp only [laws_FnProductCounts.l3]
    refine Ev.ite (fun _ => J6) (fun _ => Ev.ite (fun _ => J6) (fun _ => ?_))
    by_cases c : (t : Int) < (q.length : Int)
    · rw [decide_eq_true c]; exact J6
    · rw [decide_eq_false c]
      refine Ev.succ ?_
      simp only [laws_FnProductCounts.j6]
      exact Ev.neg (by decide) (Ev.now _)
theorem l2_ev (a : List Int) (ha : a.length ≤ 1000) (h0 : ∀ t : Nat, rd a (t : Int) = 0) : ∀ (d t : Nat), t + d = a.length → Ev (fun k => laws_FnProductCounts.l2 k p q a b (t : Int)) true := by
  intro d
  induction d with
  | zero =>
    intro t ht
    refine Ev.succ ?_
    simp only [laws_FnProductCounts.l2]
    exact Ev.neg (by omega) (l3_ev p q b hp hq hb Bp Bq Bb H 100 0 rfl)
  | succ d ih =>
    intro t ht
    refine Ev.succ ?_
    simp only [laws_FnProductCounts.l2]
    refine Ev.pos (by omega) (Ev.pos (by omega) (Ev.pos (h0 t) ?_))
    rw [w64' (by omega), show (t : Int) + 1 = ((t + 1 : Nat) : Int) by omega]
    exact ih (t + 1) (by omega)
omit hb Bb H in
theorem l1_ev (i : Nat) (hi : i < p.length) (F : Nat → Int) (B : Int) (hB0 : 0 ≤ B) (hB : B ≤ 1000000000000) (nxt : ∀ a : List Int, a.length + 1 = p.length + q.length → (∀ t : Nat, rd a (t : Int) = F t - sm (fun k => if i + k = t then rd p (i : Int) * rd q (k : Int) else 0) q.length) →
      (∀ t : Nat, -(B + 1000000 * (q.length : Int)) ≤ rd a (t : Int) ∧ rd a (t : Int) ≤ B + 1000000 * (q.length : Int)) → Ev (fun k => laws_FnProductCounts.l0 k p q a b ((i + 1 : Nat) : Int)) true) :
    ∀ (d k : Nat) (a : List Int), k + d = q.length → a.length + 1 = p.length + q.length → (∀ t : Nat, rd a (t : Int) = F t - sm (fun k => if i + k = t then rd p (i : Int) * rd q (k : Int) else 0) k) →
      (∀ t : Nat, -(B + 1000000 * (k : Int)) ≤ rd a (t : Int) ∧ rd a (t : Int) ≤ B + 1000000 * (k : Int)) → Ev (fun n => laws_FnProductCounts.l1 n p q a b (i : Int) (k : Int)) true := by
  intro d
  induction d with
  | zero =>
    intro k a hk hl hv hbd
    obtain rfl : k = q.length := by omega
    refine Ev.succ ?_
    simp only [laws_FnProductCounts.l1]
    refine Ev.neg (by omega) ?_
    rw [w64' (by omega), show (i : Int) + 1 = ((i + 1 : Nat) : Int) by omega]
    exact nxt a hl hv hbd
  | succ d ih =>
    intro k a hk hl hv hbd
    have b1 := Bp i
    have b2 := Bq k
    have b3 := hbd (i + k)
    have hm := mul_bd (A := 1000) (B := 1000) b1 b2
    refine Ev.succ ?_
    simp only [laws_FnProductCounts.l1]
    rw [w64' (show -9000000000000000000 ≤ ((i : Int) + (k : Int)) ∧ ((i : Int) + (k : Int)) ≤ 9000000000000000000 by omega), w64' (show -9000000000000000000 ≤ (rd p (i : Int) * rd q (k : Int)) ∧ (rd p (i : Int) * rd q (k : Int)) ≤ 9000000000000000000 by omega), show (i : Int) + (k : Int) = ((i + k : Nat) : Int) by omega]
    rw [w64' (show -9000000000000000000 ≤ (rd a ((i + k : Nat) : Int) - rd p (i : Int) * rd q (k : Int)) ∧ (rd a ((i + k : Nat) : Int) - rd p (i : Int) * rd q (k : Int)) ≤ 9000000000000000000 by omega), Int.toNat_natCast]
    refine Ev.pos (by omega) (Ev.pos (by omega) (Ev.pos (by omega) (Ev.pos (by omega) (Ev.pos (by omega) (Ev.pos (by omega) ?_)))))
    rw [w64' (by omega), show (k : Int) + 1 = ((k + 1 : Nat) : Int) by omega]
    refine ih (k + 1) _ (by omega) (by simpa using hl) (fun t => ?_) (fun t => ?_)
    · rw [rd_setk _ _ t _ (by omega), sm]
      by_cases e : t = i + k
      · subst e
        rw [if_pos rfl, if_pos rfl, hv]
        omega
      · rw [if_neg e, if_neg (fun z => e z.symm), hv]
        omega
    · rw [rd_setk _ _ t _ (by omega)]
      have := hbd t
      by_cases e : t = i + k
      · rw [if_pos e]
        omega
      · rw [if_neg e]
        omega
theorem l0_ev (F : Nat → Int) (hF : ∀ t : Nat, F t = sm (fun i => sm (fun k => if i + k = t then rd p (i : Int) * rd q (k : Int) else 0) q.length) p.length) :
    ∀ (d i : Nat) (a : List Int) (B : Int), i + d = p.length → 0 ≤ B → B + 100000000 * (d : Int) ≤ 1000000000000 → a.length + 1 = p.length + q.length → (∀ t : Nat, rd a (t : Int) = F t - sm (fun i => sm (fun k => if i + k = t then rd p (i : Int) * rd q (k : Int) else 0) q.length) i) →
      (∀ t : Nat, -B ≤ rd a (t : Int) ∧ rd a (t : Int) ≤ B) → Ev (fun n => laws_FnProductCounts.l0 n p q a b (i : Int)) true := by
  intro d
  induction d with
  | zero =>
    intro i a B hi hB0 hB hl hv hbd
    obtain rfl : i = p.length := by omega
    refine Ev.succ ?_
    simp only [laws_FnProductCounts.l0]
    refine Ev.neg (by omega) (l2_ev p q b hp hq hb Bp Bq Bb H a (by omega) (fun t => ?_) a.length 0 (by omega))
    rw [hv, hF]
    omega
  | succ d ih =>
    intro i a B hi hB0 hB hl hv hbd
    refine Ev.succ ?_
    simp only [laws_FnProductCounts.l0]
    refine Ev.pos (by omega) (l1_ev p q b hp hq Bp Bq i (by omega) (fun t => F t - sm (fun i => sm (fun k => if i + k = t then rd p (i : Int) * rd q (k : Int) else 0) q.length) i) B hB0 (by omega) (fun a' hl' hv' hbd' => ?_) q.length 0 a (by omega) hl (fun t => ?_) (fun t => ?_))
    · refine ih (i + 1) a' (B + 100000000) (by omega) (by omega) (by omega) hl' (fun t => ?_) (fun t => ?_)
      · rw [hv' t, sm]
        omega
      · have := hbd' t
        omega
    · rw [hv t]
      simp [sm]
    · have := hbd t
      simpa using this
end
theorem law_ev (c : List Int) (hb : ∀ x ∈ c, 0 ≤ x ∧ x ≤ 255) : Ev (fun k => laws_FnProductCounts.f k c) true := by
  simp only [laws_FnProductCounts.f, laws_big.f]
  refine Ev.some_bind (Ev.ite (fun _ => Ev.now _) (fun g => ?_))
  have hc : c.length ≤ 4096 := by simp at g; omega
  obtain ⟨h0, r0⟩ := l01From_ev c hc
  have s0 : Src c 0 := ⟨hb, hc, by omega, by omega⟩
  obtain ⟨n1, D1, a1, h1, s1, d1, e1⟩ := l02Spoil_ev s0 h0 5 (by omega)
  obtain ⟨n2, D2, a2, h2, s2, d2, e2⟩ := l02Spoil_ev s1 h1 5 (by omega)
  have hd : Ev (fun k => spec_DrawDirectProduct.f k c) (n1, D1, n2, D2) := by
    simp only [spec_DrawDirectProduct.f]
    exact Ev.bind r0 (Ev.bind e1 (Ev.bind e2 (Ev.now _)))
  obtain ⟨r, rl, p1, p2, p3⟩ := DirectProduct_both n1 D1 n2 D2
  refine Ev.bind hd (Ev.bind p2 (Ev.bind p1 (Ev.pos rfl ?_)))
  have lk : Ev (fun k => laws_likeAlphabet5.f k r.1 r.2.1 r.1 r.2.1) true := by
    simp only [laws_likeAlphabet5.f]
    exact Ev.pos trivial (Ev.bind (likeInts_ev _ (by omega)) (Ev.now _))
  refine Ev.bind lk (Ev.succ ?_)
  simp only [laws_FnProductCounts.j0]
  refine Ev.neg (by decide) (Ev.ite (fun k0 => ?_) (fun _ => Ev.now _))
  obtain ⟨m, n, f, g', rfl, rfl, rfl, rfl, hN, hf, hf1, hg, hg1, hA1, hA2, e⟩ := p3 k0
  rw [e]
  have hfree : Ev (fun k => impl_FreeProduct.f k (m : Int) (mat m f) (n : Int) (mat n g')) (((m + n : Nat) : Int), mat (m + n) (sideF m f g' true), 0) := by
    simp only [impl_FreeProduct.f]
    exact Ev.bind (product_ok hN hA1 hA2 true) (Ev.now _)
  obtain ⟨q1, ql1, qb1⟩ := poly_ok (show m ≤ 8 by omega) hf hf1
  obtain ⟨q2, ql2, qb2⟩ := poly_ok (show n ≤ 8 by omega) hg hg1
  obtain ⟨q3, ql3, qb3⟩ := poly_ok hN (sideF_symm (m := m) false hf hg) (sideF_refl (m := m) (n := n) false hf1 hg1)
  obtain ⟨q4, ql4, qb4⟩ := poly_ok hN (sideF_symm (m := m) true hf hg) (sideF_refl (m := m) (n := n) true hf1 hg1)
  have hl := direct_len (m := m) (n := n) hf1 hg1
  refine Ev.bind hfree (Ev.bind q1 (Ev.bind q2 (Ev.bind q3 (Ev.bind q4 (Ev.pos rfl (Ev.pos rfl (Ev.pos rfl (Ev.pos rfl (Ev.pos rfl ?_)))))))))
  simp only []
  rw [w64' (show -9000000000000000000 ≤ (((cliqueP (stepsP m f)).length : Int) + ((cliqueP (stepsP n g')).length : Int)) ∧ (((cliqueP (stepsP m f)).length : Int) + ((cliqueP (stepsP n g')).length : Int)) ≤ 9000000000000000000 by omega), w64' (by omega)]
  rw [show (((cliqueP (stepsP (m + n) (sideF m f g' false))).length : Int) != ((cliqueP (stepsP m f)).length : Int) + ((cliqueP (stepsP n g')).length : Int) - 1) = false from by rw [bne_eq_false_iff_eq]; omega]
  refine Ev.succ ?_
  simp only [laws_FnProductCounts.j1]
  refine Ev.neg (by decide) ?_
  exact l0_ev _ _ _ ql1 ql2 ql4 qb1 qb2 qb4 (fun t => free_coeff hf1 hg1 t) (fun t => rd (cliqueP (stepsP (m + n) (sideF m f g' false))) (t : Int)) (fun t => direct_coeff hf1 hg1 t) (cliqueP (stepsP m f)).length 0 _ 1000 (by omega) (by omega) (by omega) hl (fun t => by simp [sm]) (fun t => qb3 t)
theorem pure : PureStmt := fun c _ h2 => (law_ev c (fun x hx => u8_bounds (h2 x hx))).elim fun K h => ⟨K, h K (Nat.le_refl K)⟩
end Go.Proofs.YtjdekliancabgaaDoor.LFnProductCounts
