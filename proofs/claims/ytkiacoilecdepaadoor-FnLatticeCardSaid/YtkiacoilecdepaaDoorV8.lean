import Derived.Test.YtkiacoilecdepaaDoorPAllx12
import Derived.Test.YtkiacoilecdepaaDoorPAllx13
import Derived.Test.YtkiacoilecdepaaDoorV0
import Derived.Test.YtkiacoilecdepaaDoorV1
import Derived.Test.YtkiacoilecdepaaDoorV3
import Derived.Test.YtkiacoilecdepaaDoorV4
import Derived.Test.YtkiacoilecdepaaDoorQBase
import Derived.Test.YtkiacoilecdepaaDoorQDraw
import Derived.Test.YtkiacoilecdepaaDoorQMeet
import Derived.Test.YtkiacoilecdepaaDoorQRev
import Derived.Test.YtkiacoilecdepaaDoorQTrace
set_option linter.unusedVariables false
set_option linter.unusedSimpArgs false
namespace Go.Proofs.YtkiacoilecdepaaDoor.PAll
open Go.RowKit Go.Proofs.YtkiacoilecdepaaDoorW.PrintWords Go.Proofs.YtkiacoilecdepaaDoorW.PrintMore Go.Proofs.YtkiacoilecdepaaDoor.Q
theorem l05Cut_l0 (n : Nat) (hn : n ≤ 24) (f : Nat → Nat → Bool) : ∀ (u pre v : List Nat), (pre ++ u).length ≤ 1000000 → v.length ≤ 1000000 → (∀ x ∈ u, x < n) → (∀ x ∈ v, x < n) →
  Ev (fun k => spec_l05Cut.l0 k (ints (pre ++ u)) (ints v) (pre.length : Int) (n : Int) (mat n f)) (cutR f u v) := by
 intro u
 induction u with
 | nil =>
  intro pre v hl hv hu hw
  refine Ev.succ ?_
  simp only [spec_l05Cut.l0]
  exact Ev.neg (by simp) (Ev.const rfl)
 | cons a u ih =>
  intro pre v hl hv hu hw
  simp only [List.length_append, List.length_cons] at hl
  have ha : a < n := hu a (by simp)
  refine Ev.succ ?_
  simp only [spec_l05Cut.l0]
  refine Ev.pos (by simp; omega) (Ev.pos (by omega) ?_)
  rw [rd_mid]
  refine Ev.bind (l03First_ev n hn f v hv hw a ha) ?_
  by_cases h : isFirst f v a = true
  ·refine Ev.neg (by unfold fIdx; rw [if_pos h]; omega) ?_
   rw [l03Without_first f v hv a h, w64' (by omega)]
   refine Ev.some_bind ?_
   have := ih (pre ++ [a]) (v.erase a) (by simp; omega) (by have := length_erase f h; omega) (fun x hx => hu x (by simp [hx])) (erase_lt hw)
   simp only [List.append_assoc, List.cons_append, List.nil_append, List.length_append, List.length_cons, List.length_nil] at this
   refine Ev.val this ?_
   unfold cutR
   rw [cutP_cons, if_pos h]
  ·refine Ev.pos (by unfold fIdx; rw [if_neg h]; omega) (Ev.const ?_)
   unfold cutR
   rw [cutP_cons, if_neg h]
theorem l05Cut_ev (n : Nat) (hn : n ≤ 24) (f : Nat → Nat → Bool) (u v : List Nat) (hl : u.length ≤ 1000000) (hv : v.length ≤ 1000000) (hu : ∀ x ∈ u, x < n) (hw : ∀ x ∈ v, x < n) : Ev (fun k => spec_l05Cut.f k (n : Int) (mat n f) (ints u) (ints v)) (cutR f u v) := by
 simp only [spec_l05Cut.f]
 rw [l01Own_eq _ (by simp; omega)]
 exact Ev.some_bind (l05Cut_l0 n hn f u [] v hl hv hu hw)
theorem shuf_tm {v0 m j : Nat} (hv : v0 < m) (hm : m ≤ 8) (hj : j < m) : Int.tmod (wrap64 ((v0 : Int) + (j : Int))) (m : Int) = (((v0 + j) % m : Nat) : Int) := by
 rw [w64' (by omega), ← Int.natCast_add]
 exact (Int.ofNat_tmod _ _).symm
theorem l03Shuffle_l0 {c : List Int} {m : Nat} (hm : m ≤ 8) (f : Nat → Nat → Bool) : ∀ (L : Nat) (w acc : List Nat) (a h : Int), w.length = L → acc.length + L ≤ 1000 → (∀ x ∈ w, x < m) → (∀ x ∈ acc, x < m) → Src c a →
  ∃ (v : List Nat) (a' h' : Int), Src c a' ∧ v.length = acc.length + L ∧ (∀ x ∈ v, x < m) ∧ Ev (fun k => spec_l03Shuffle.l0 k (ints acc) (ints w) c a h (m : Int) (mat m f)) (ints v, a', h') := by
 intro L
 induction L with
 | zero =>
  intro w acc a h hL hl hw ha hS
  obtain rfl : w = [] := List.length_eq_zero_iff.1 hL
  refine ⟨acc, a, h, hS, by omega, ha, Ev.succ ?_⟩
  simp only [spec_l03Shuffle.l0]
  exact Ev.neg (by simp) (Ev.now _)
 | succ L ih =>
  intro w acc a h hL hl hw ha hS
  obtain ⟨x, w', rfl⟩ : ∃ x w', w = x :: w' := by
   cases w with
   | nil => simp at hL
   | cons x w' => exact ⟨x, w', rfl⟩
  have hx : x < m := hw x (by simp)
  have hwl : (x :: w').length ≤ 1000000 := by omega
  obtain ⟨v, a1, h1, e1, s1, p0, p1, _⟩ := l01Next_ev hS h (m : Int)
  have p1' := p1 (by omega)
  obtain ⟨v0, rfl⟩ := Int.eq_ofNat_of_zero_le p0
  have hf : isFirst f (x :: w') x = true := isFirst_head f x w'
  have key : ∀ j : Nat, j < m → isFirst f (x :: w') ((v0 + j) % m) = true → ∃ (v : List Nat) (a' h' : Int), Src c a' ∧ v.length = acc.length + (L + 1) ∧ (∀ x ∈ v, x < m) ∧
    Ev (fun k => spec_l03Shuffle.l1 k (ints acc) (ints (x :: w')) (v0 : Int) (j : Int) c a1 h1 (m : Int) (mat m f)) (ints v, a', h') := fun j hj hi => by
   have hc : (v0 + j) % m < m := Nat.mod_lt _ (by omega)
   have hmem := isFirst_mem f hi
   have hel : ((x :: w').erase ((v0 + j) % m)).length = L := by rw [List.length_erase_of_mem hmem]; omega
   obtain ⟨v, a', h', s', l', b', r'⟩ := ih ((x :: w').erase ((v0 + j) % m)) (acc ++ [(v0 + j) % m]) a1 h1 hel (by simp; omega) (fun y hy => hw y (List.mem_of_mem_erase hy)) (fun y hy => by
    rcases List.mem_append.1 hy with hy | hy
    ·exact ha y hy
    ·rw [List.mem_singleton.1 hy]; exact hc) s1
   refine ⟨v, a', h', s', by rw [l']; simp; omega, b', Ev.succ ?_⟩
   simp only [spec_l03Shuffle.l1]
   refine Ev.pos (by omega) (Ev.neg (by omega) ?_)
   rw [shuf_tm (by omega) hm hj]
   have hge : fIdx f (x :: w') ((v0 + j) % m) ≥ 0 := by
    unfold fIdx
    rw [if_pos hi]
    omega
   refine Ev.bind (l03First_ev m (by omega) f _ hwl hw _ hc) (Ev.pos hge (Ev.pos (by simp; omega) ?_))
   rw [l03Without_first f _ hwl _ hi]
   refine Ev.some_bind ?_
   rw [ints_append] at r'
   exact r'
  have inner : ∀ (d j : Nat), j + d < m → (v0 + (j + d)) % m = x → ∃ (v : List Nat) (a' h' : Int), Src c a' ∧ v.length = acc.length + (L + 1) ∧ (∀ x ∈ v, x < m) ∧
    Ev (fun k => spec_l03Shuffle.l1 k (ints acc) (ints (x :: w')) (v0 : Int) (j : Int) c a1 h1 (m : Int) (mat m f)) (ints v, a', h') := by
   intro d
   induction d with
   | zero => intro j hj he; exact key j (by omega) (by rw [Nat.add_zero] at he; rw [he]; exact hf)
   | succ d ihd =>
    intro j hj he
    by_cases hi : isFirst f (x :: w') ((v0 + j) % m) = true
    ·exact key j (by omega) hi
    ·obtain ⟨v, a', h', s', l', b', r'⟩ := ihd (j + 1) (by omega) (by rw [← he]; congr 1; omega)
     refine ⟨v, a', h', s', l', b', Ev.succ ?_⟩
     simp only [spec_l03Shuffle.l1]
     refine Ev.pos (by omega) (Ev.neg (by omega) ?_)
     rw [shuf_tm (by omega) hm (by omega)]
     have hge : ¬ fIdx f (x :: w') ((v0 + j) % m) ≥ 0 := by
      unfold fIdx
      rw [if_neg hi]
      omega
     refine Ev.bind (l03First_ev m (by omega) f _ hwl hw _ (Nat.mod_lt _ (by omega))) (Ev.neg hge ?_)
     rw [w64' (by omega)]
     exact r'
  have start : ∃ d, 0 + d < m ∧ (v0 + (0 + d)) % m = x := by
   by_cases g : v0 ≤ x
   ·exact ⟨x - v0, by omega, by rw [show v0 + (0 + (x - v0)) = x by omega]; exact Nat.mod_eq_of_lt hx⟩
   ·exact ⟨x + m - v0, by omega, by rw [show v0 + (0 + (x + m - v0)) = x + m by omega, Nat.add_mod_right]; exact Nat.mod_eq_of_lt hx⟩
  obtain ⟨d, hd, he⟩ := start
  obtain ⟨v, a', h', s', l', b', r'⟩ := inner d 0 hd he
  refine ⟨v, a', h', s', l', b', Ev.succ ?_⟩
  simp only [spec_l03Shuffle.l0]
  refine Ev.pos (by simp) ?_
  rw [e1]
  exact Ev.some_bind r'
theorem l03Shuffle_ev {c : List Int} {a : Int} (hS : Src c a) (h : Int) {m : Nat} (hm : m ≤ 8) (f : Nat → Nat → Bool) {w : List Nat} (hl : w.length ≤ 1000) (hw : ∀ x ∈ w, x < m) :
  ∃ (v : List Nat) (a' h' : Int), Src c a' ∧ v.length = w.length ∧ (∀ x ∈ v, x < m) ∧ Ev (fun k => spec_l03Shuffle.f k c a h (m : Int) (mat m f) (ints w)) (ints v, a', h') := by
 obtain ⟨v, a', h', s', l', b', r'⟩ := l03Shuffle_l0 hm f w.length w [] a h rfl (by simp; omega) hw (by simp) hS
 refine ⟨v, a', h', s', by simpa using l', b', ?_⟩
 simp only [spec_l03Shuffle.f]
 rw [l01Own_eq _ (by simp; omega)]
 exact Ev.some_bind r'
theorem l05Two_j1 {c : List Int} {m : Nat} (hm : m ≤ 8) {f : Nat → Nat → Bool} {u : List Nat} (hul : u.length ≤ 24) (hu : ∀ x ∈ u, x < m) (v : List Int) {a : Int} (hS : Src c a) (h : Int) :
  ∃ (r1 r2 : List Int) (a' h' : Int), Src c a' ∧ Ev (fun k => spec_l05Two.j1 k (ints u) v c a h (m : Int) (mat m f)) (c, a', h', (m : Int), mat m f, r1, r2) := by
 have hi := l03Is_ev (m : Int) (mat m f) v
 by_cases g : Alpha (m : Int) (mat m f) ∧ Word (m : Int) v
 ·rw [decide_eq_true g] at hi
  obtain ⟨v', rfl, hvl, hv⟩ := g.2.form
  obtain ⟨r2, a1, h1, s1, _, _, e1⟩ := l03Shuffle_ev hS h hm f (show v'.length ≤ 1000 by omega) hv
  obtain ⟨r1, a2, h2, s2, _, _, e2⟩ := l03Shuffle_ev s1 h1 hm f (show u.length ≤ 1000 by omega) hu
  refine ⟨ints r1, ints r2, a2, h2, s2, Ev.succ ?_⟩
  simp only [spec_l05Two.j1]
  exact Ev.bind hi (Ev.pos rfl (Ev.bind e1 (Ev.bind e2 (Ev.now _))))
 ·rw [decide_eq_false g] at hi
  obtain ⟨r1, a2, h2, s2, _, _, e2⟩ := l03Shuffle_ev hS h hm f (show u.length ≤ 1000 by omega) hu
  refine ⟨ints r1, v, a2, h2, s2, Ev.succ ?_⟩
  simp only [spec_l05Two.j1]
  exact Ev.bind hi (Ev.neg (by decide) (Ev.bind e2 (Ev.now _)))
set_option maxHeartbeats 2000000 in
theorem l05Two_l0 {c : List Int} {m : Nat} (hm : m ≤ 8) {f : Nat → Nat → Bool} {w : List Nat} (hwl : w.length ≤ 24) (hw : ∀ x ∈ w, x < m) {most : Nat} (hmo : most ≤ 24) : ∀ (d i : Nat) (u v : List Nat) (a h : Int), i + d = w.length → u.length ≤ i → v.length ≤ i → (∀ x ∈ u, x < m) → (∀ x ∈ v, x < m) → Src c a →
  ∃ (r1 r2 : List Int) (a' h' : Int), Src c a' ∧ Ev (fun k => spec_l05Two.l0 k (most : Int) (ints w) (ints u) (ints v) (i : Int) c a h (m : Int) (mat m f)) (c, a', h', (m : Int), mat m f, r1, r2) := by
 intro d
 induction d with
 | zero =>
  intro i u v a h hi hul hvl hu hv hS
  obtain ⟨t, a1, h1, e1, s1, _⟩ := l01Next_ev hS h 5
  by_cases g : t = 0
  ·obtain ⟨x, a2, h2, s2, _, e2⟩ := l03Spoil_ev s1 h1 (m : Int) (mat m f) most hmo
   obtain ⟨r1, r2, a3, h3, s3, e3⟩ := l05Two_j1 hm (f := f) (show u.length ≤ 24 by omega) hu x s2 h2
   refine ⟨r1, r2, a3, h3, s3, Ev.succ ?_⟩
   simp only [spec_l05Two.l0]
   refine Ev.neg (by simp; omega) ?_
   rw [e1]
   exact Ev.some_bind (Ev.pos g (Ev.bind e2 e3))
  ·obtain ⟨r1, r2, a3, h3, s3, e3⟩ := l05Two_j1 hm (f := f) (show u.length ≤ 24 by omega) hu (ints v) s1 h1
   refine ⟨r1, r2, a3, h3, s3, Ev.succ ?_⟩
   simp only [spec_l05Two.l0]
   refine Ev.neg (by simp; omega) ?_
   rw [e1]
   exact Ev.some_bind (Ev.neg g e3)
 | succ d ih =>
  intro i u v a h hi hul hvl hu hv hS
  obtain ⟨t, a1, h1, e1, s1, _⟩ := l01Next_ev hS h 6
  have hx : w.getD i 0 < m := getD_lt hw (by omega)
  have er : rd (ints w) (i : Int) = ((w.getD i 0 : Nat) : Int) := rd_getD w i
  have ap : ∀ z : List Nat, (∀ x ∈ z, x < m) → ∀ x ∈ z ++ [w.getD i 0], x < m := fun z hz => mem_app hz (fun x hx' => by rw [List.mem_singleton.1 hx']; exact hx)
  have ea : ∀ z : List Nat, ints z ++ [((w.getD i 0 : Nat) : Int)] = ints (z ++ [w.getD i 0]) := fun z => by rw [ints_append]; rfl
  by_cases g0 : t = 0
  ·obtain ⟨r1, r2, a3, h3, s3, e3⟩ := ih (i + 1) (u ++ [w.getD i 0]) v a1 h1 (by omega) (by simp; omega) (by omega) (ap u hu) hv s1
   refine ⟨r1, r2, a3, h3, s3, Ev.succ ?_⟩
   simp only [spec_l05Two.l0]
   refine Ev.pos (by simp; omega) ?_
   rw [e1]
   refine Ev.some_bind (Ev.pos g0 (Ev.pos (by omega) (Ev.pos (by simp; omega) ?_)))
   rw [er, ea, wS i (by omega)]
   exact e3
  ·by_cases g1 : t = 1
   ·obtain ⟨r1, r2, a3, h3, s3, e3⟩ := ih (i + 1) u (v ++ [w.getD i 0]) a1 h1 (by omega) (by omega) (by simp; omega) hu (ap v hv) s1
    refine ⟨r1, r2, a3, h3, s3, Ev.succ ?_⟩
    simp only [spec_l05Two.l0]
    refine Ev.pos (by simp; omega) ?_
    rw [e1]
    refine Ev.some_bind (Ev.neg g0 (Ev.pos g1 (Ev.pos (by omega) (Ev.pos (by simp; omega) ?_))))
    rw [er, ea, wS i (by omega)]
    exact e3
   ·obtain ⟨r1, r2, a3, h3, s3, e3⟩ := ih (i + 1) (u ++ [w.getD i 0]) (v ++ [w.getD i 0]) a1 h1 (by omega) (by simp; omega) (by simp; omega) (ap u hu) (ap v hv) s1
    refine ⟨r1, r2, a3, h3, s3, Ev.succ ?_⟩
    simp only [spec_l05Two.l0]
    refine Ev.pos (by simp; omega) ?_
    rw [e1]
    refine Ev.some_bind (Ev.neg g0 (Ev.neg g1 (Ev.pos (by omega) (Ev.pos (by simp; omega) (Ev.pos (by simp; omega) ?_)))))
    rw [er, ea, ea, wS i (by omega)]
    exact e3
theorem l05Two_ev (c : List Int) (hb : ∀ x ∈ c, 0 ≤ x ∧ x ≤ 255) (hc : c.length ≤ 4096) (letters most : Nat) (hl : letters ≤ 8) (hmo : most ≤ 24) :
  ∃ (n : Int) (D r1 r2 : List Int) (a h : Int), Ev (fun k => spec_l05Two.f k c (letters : Int) (most : Int)) (c, a, h, n, D, r1, r2) := by
 obtain ⟨a, h, n, D, w, s0, l0, l1, hd⟩ := l03Pair_ev c hb hc letters most hl hmo
 have hi := l03Is_ev n D w
 by_cases g : Alpha n D ∧ Word n w
 ·rw [decide_eq_true g] at hi
  obtain ⟨m, f, rfl, rfl, hm, hs, hr⟩ := g.1.form
  obtain ⟨w', rfl, hwl, hw⟩ := g.2.form
  obtain ⟨r1, r2, a3, h3, s3, e3⟩ := l05Two_l0 hm (f := f) hwl hw hmo w'.length 0 [] [] a h (by omega) (by simp) (by simp) (by simp) (by simp) s0
  refine ⟨(m : Int), mat m f, r1, r2, a3, h3, ?_⟩
  simp only [spec_l05Two.f]
  exact Ev.bind hd (Ev.bind hi (Ev.pos rfl e3))
 ·rw [decide_eq_false g] at hi
  refine ⟨n, D, w, [0], a, h, ?_⟩
  simp only [spec_l05Two.f]
  exact Ev.bind hd (Ev.bind hi (Ev.neg (by decide) (Ev.now _)))
end Go.Proofs.YtkiacoilecdepaaDoor.PAll
