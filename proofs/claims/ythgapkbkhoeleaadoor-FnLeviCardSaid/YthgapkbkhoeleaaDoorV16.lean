import Derived.Test.YthgapkbkhoeleaaDoorPAllx0
import Derived.Test.YthgapkbkhoeleaaDoorPAllx2
import Derived.Test.YthgapkbkhoeleaaDoorPAllx24
import Derived.Test.YthgapkbkhoeleaaDoorPAllx26
import Derived.Test.YthgapkbkhoeleaaDoorV0
import Derived.Test.YthgapkbkhoeleaaDoorV1
import Derived.Test.YthgapkbkhoeleaaDoorV11
import Derived.Test.YthgapkbkhoeleaaDoorV2
import Derived.Test.YthgapkbkhoeleaaDoorV5
import Derived.Test.YthgapkbkhoeleaaDoorV7
import Derived.Test.YthgapkbkhoeleaaDoorV9
import Derived.Test.YthgapkbkhoeleaaDoorQBase
import Derived.Test.YthgapkbkhoeleaaDoorQDraw
import Derived.Test.YthgapkbkhoeleaaDoorQFoata
import Derived.Test.YthgapkbkhoeleaaDoorQMeet
import Derived.Test.YthgapkbkhoeleaaDoorQOrder
import Derived.Test.YthgapkbkhoeleaaDoorQRev
import Derived.Test.YthgapkbkhoeleaaDoorQTrace
set_option linter.unusedVariables false
set_option linter.unusedSimpArgs false
namespace Go.Proofs.YthgapkbkhoeleaaDoor.PAll
open Go.RowKit Go.Proofs.YthgapkbkhoeleaaDoorW.PrintWords Go.Proofs.YthgapkbkhoeleaaDoorW.PrintMore Go.Proofs.YthgapkbkhoeleaaDoor.Q
theorem l03Is_ev (n : Int) (D w : List Int) : Ev (fun k => spec_l03Is.f k n D w) (decide (Alpha n D ∧ Word n w)) := by
  have hi := l02Is_ev n D
  simp only [spec_l03Is.f]
  by_cases hA : Alpha n D
  · rw [decide_eq_true hA] at hi
    obtain ⟨m, f, rfl, rfl, hm, hs, hr⟩ := hA.form
    have hw := l03Word_ev (m : Int) (by omega) w
    rw [show decide (Alpha (m : Int) (mat m f) ∧ Word (m : Int) w) = decide (Word (m : Int) w) from by simp [hA]]
    exact Ev.bind hi (Ev.pos rfl (Ev.bind hw (Ev.now _)))
  · rw [decide_eq_false hA] at hi
    rw [show decide (Alpha n D ∧ Word n w) = false from by simp [hA]]
    exact Ev.bind hi (Ev.neg (by decide) (Ev.now _))
theorem shuf_tm {v0 m j : Nat} (hv : v0 < m) (hm : m ≤ 8) (hj : j < m) : Int.tmod (wrap64 ((v0 : Int) + (j : Int))) (m : Int) = (((v0 + j) % m : Nat) : Int) := by
  rw [w64' (by omega), ← Int.natCast_add]
  exact (Int.ofNat_tmod _ _).symm
theorem l03Shuffle_l0 {c : List Int} {m : Nat} (hm : m ≤ 8) (f : Nat → Nat → Bool) : ∀ (L : Nat) (w acc : List Nat) (a h : Int), w.length = L → acc.length + L ≤ 1000 → (∀ x ∈ w, x < m) → (∀ x ∈ acc, x < m) → Src c a →
    ∃ (v : List Nat) (a' h' : Int), Src c a' ∧ v.length = acc.length + L ∧ (∀ x ∈ v, x < m) ∧ Ev (fun k => spec_l03Shuffle.l0 k (ints acc) (ints w) c a h (m : Int) (mat m f)) (ints v, a', h') := by
  intro L
  induction L with
  | zero =>
    intro w acc a h hL hl hw ha hS
    obtain rfl : w = [] := List.length_eq_zero_iff.1 hL
    refine ⟨acc, a, h, hS, by omega, ha, Ev.succ ?_⟩
    simp only [spec_l03Shuffle.l0]
    exact Ev.neg (by simp) (Ev.now _)
  | succ L ih =>
    intro w acc a h hL hl hw ha hS
    obtain ⟨x, w', rfl⟩ : ∃ x w', w = x :: w' := by
      cases w with
      | nil => simp at hL
      | cons x w' => exact ⟨x, w', rfl⟩
    have hx : x < m := hw x (by simp)
    have hwl : (x :: w').length ≤ 1000000 := by omega
    obtain ⟨v, a1, h1, e1, s1, p0, p1, _⟩ := l01Next_ev hS h (m : Int)
    have p1' := p1 (by omega)
    obtain ⟨v0, rfl⟩ := Int.eq_ofNat_of_zero_le p0
    have hf : isFirst f (x :: w') x = true := isFirst_head f x w'
    have key : ∀ j : Nat, j < m → isFirst f (x :: w') ((v0 + j) % m) = true → ∃ (v : List Nat) (a' h' : Int), Src c a' ∧ v.length = acc.length + (L + 1) ∧ (∀ x ∈ v, x < m) ∧
        Ev (fun k => spec_l03Shuffle.l1 k (ints acc) (ints (x :: w')) (v0 : Int) (j : Int) c a1 h1 (m : Int) (mat m f)) (ints v, a', h') := fun j hj hi => by
      have hc : (v0 + j) % m < m := Nat.mod_lt _ (by omega)
      have hmem := isFirst_mem f hi
      have hel : ((x :: w').erase ((v0 + j) % m)).length = L := by rw [List.length_erase_of_mem hmem]; omega
      obtain ⟨v, a', h', s', l', b', r'⟩ := ih ((x :: w').erase ((v0 + j) % m)) (acc ++ [(v0 + j) % m]) a1 h1 hel (by simp; omega) (fun y hy => hw y (List.mem_of_mem_erase hy)) (fun y hy => by
        rcases List.mem_append.1 hy with hy | hy
        · exact ha y hy
        · rw [List.mem_singleton.1 hy]; exact hc) s1
      refine ⟨v, a', h', s', by rw [l']; simp; omega, b', Ev.succ ?_⟩
      simp only [spec_l03Shuffle.l1]
      refine Ev.pos (by omega) (Ev.neg (by omega) ?_)
      rw [shuf_tm (by omega) hm hj]
      have hge : fIdx f (x :: w') ((v0 + j) % m) ≥ 0 := by
        unfold fIdx
        rw [if_pos hi]
        omega
      refine Ev.bind (l03First_ev m (by omega) f _ hwl hw _ hc) (Ev.pos hge (Ev.pos (by simp; omega) ?_))
      rw [l03Without_first f _ hwl _ hi]
      refine Ev.some_bind ?_
      rw [ints_append] at r'
      exact r'
    have inner : ∀ (d j : Nat), j + d < m → (v0 + (j + d)) % m = x → ∃ (v : List Nat) (a' h' : Int), Src c a' ∧ v.length = acc.length + (L + 1) ∧ (∀ x ∈ v, x < m) ∧
        Ev (fun k => spec_l03Shuffle.l1 k (ints acc) (ints (x :: w')) (v0 : Int) (j : Int) c a1 h1 (m : Int) (mat m f)) (ints v, a', h') := by
      intro d
      induction d with
      | zero => intro j hj he; exact key j (by omega) (by rw [Nat.add_zero] at he; rw [he]; exact hf)
      | succ d ihd =>
        intro j hj he
        by_cases hi : isFirst f (x :: w') ((v0 + j) % m) = true
        · exact key j (by omega) hi
        · obtain ⟨v, a', h', s', l', b', r'⟩ := ihd (j + 1) (by omega) (by rw [← he]; congr 1; omega)
          refine ⟨v, a', h', s', l', b', Ev.succ ?_⟩
          simp only [spec_l03Shuffle.l1]
          refine Ev.pos (by omega) (Ev.neg (by omega) ?_)
          rw [shuf_tm (by omega) hm (by omega)]
          have hge : ¬ fIdx f (x :: w') ((v0 + j) % m) ≥ 0 := by
            unfold fIdx
            rw [if_neg hi]
            omega
          refine Ev.bind (l03First_ev m (by omega) f _ hwl hw _ (Nat.mod_lt _ (by omega))) (Ev.neg hge ?_)
          rw [w64' (by omega)]
          exact r'
    have start : ∃ d, 0 + d < m ∧ (v0 + (0 + d)) % m = x := by
      by_cases g : v0 ≤ x
      · exact ⟨x - v0, by omega, by rw [show v0 + (0 + (x - v0)) = x by omega]; exact Nat.mod_eq_of_lt hx⟩
      · exact ⟨x + m - v0, by omega, by rw [show v0 + (0 + (x + m - v0)) = x + m by omega, Nat.add_mod_right]; exact Nat.mod_eq_of_lt hx⟩
    obtain ⟨d, hd, he⟩ := start
    obtain ⟨v, a', h', s', l', b', r'⟩ := inner d 0 hd he
    refine ⟨v, a', h', s', l', b', Ev.succ ?_⟩
    simp only [spec_l03Shuffle.l0]
    refine Ev.pos (by simp) ?_
    rw [e1]
    exact Ev.some_bind r'
theorem l03Shuffle_ev {c : List Int} {a : Int} (hS : Src c a) (h : Int) {m : Nat} (hm : m ≤ 8) (f : Nat → Nat → Bool) {w : List Nat} (hl : w.length ≤ 1000) (hw : ∀ x ∈ w, x < m) :
    ∃ (v : List Nat) (a' h' : Int), Src c a' ∧ v.length = w.length ∧ (∀ x ∈ v, x < m) ∧ Ev (fun k => spec_l03Shuffle.f k c a h (m : Int) (mat m f) (ints w)) (ints v, a', h') := by
  obtain ⟨v, a', h', s', l', b', r'⟩ := l03Shuffle_l0 hm f w.length w [] a h rfl (by simp; omega) hw (by simp) hS
  refine ⟨v, a', h', s', by simpa using l', b', ?_⟩
  simp only [spec_l03Shuffle.f]
  rw [l01Own_eq _ (by simp; omega)]
  exact Ev.some_bind r'
theorem AreSameTrace_ok {n : Nat} (hn : n ≤ 8) {f : Nat → Nat → Bool} (hs : ∀ a b, f a b = f b a) (hA : Alpha (n : Int) (mat n f)) {u v : List Nat} (hl : u.length ≤ 24) (hu : ∀ x ∈ u, x < n) (hl2 : v.length ≤ 24) (hv : ∀ x ∈ v, x < n) :
    Ev (fun k => impl_AreSameTrace.f k (n : Int) (mat n f) (ints u) (ints v)) (decide (TrEq f u v), 0) := by
  simp only [impl_AreSameTrace.f, impl_Alphabet_ties.f]
  exact Ev.bind (check_2 hA hl hu hl2 hv) (Ev.pos rfl (Ev.some_bind (Ev.bind (same_ev n hn f hs u v (by omega) (by omega) hu hv) (Ev.now _))))
theorem MeetOf_ok {n : Nat} (hn : n ≤ 8) {f : Nat → Nat → Bool} (hs : ∀ a b, f a b = f b a) (hA : Alpha (n : Int) (mat n f)) {u v p a b : List Nat} (hl : u.length ≤ 24) (hu : ∀ x ∈ u, x < n) (hl2 : v.length ≤ 24) (hv : ∀ x ∈ v, x < n) (h : Meets f u v p a b) :
    Ev (fun k => impl_MeetOf.f k (n : Int) (mat n f) (ints u) (ints v)) (ints (normalP f n p), 0) := by
  obtain ⟨q, a2, b2, g2, h2⟩ := meet_ev n hn f u v (by omega) (by omega) hu hv
  have hp : ∀ x ∈ p, x < n := fun x hx => hu x (cutP_mem f h.1 x hx)
  have hq : ∀ x ∈ q, x < n := fun x hx => hu x (cutP_mem f g2.1 x hx)
  have lq := Meets.le f g2
  rw [normalP_congr f hs hp hq (Meets.unique f hs h g2).1]
  simp only [impl_MeetOf.f, impl_Alphabet_ties.f]
  exact Ev.bind (check_2 hA hl hu hl2 hv) (Ev.pos rfl (Ev.some_bind (Ev.bind h2 (Ev.some_bind (Ev.bind (normal_ev n hn f q (by omega) hq) (Ev.now _))))))
theorem likeRows5_l0 (x : List (List Int)) (hx : x.length ≤ 1000000) (hr : ∀ r ∈ x, r.length ≤ 1000000) : ∀ (d i : Nat), i + d = x.length → Ev (fun k => laws_likeRows5.l0 k x x (i : Int)) true := by
  intro d
  induction d with
  | zero =>
    intro i hi
    refine Ev.succ ?_
    simp only [laws_likeRows5.l0]
    exact Ev.neg (by omega) (Ev.now _)
  | succ d ih =>
    intro i hi
    refine Ev.succ ?_
    simp only [laws_likeRows5.l0]
    have hm : rd_L1 x (i : Int) ∈ x := by
      simp only [rd_L1, Int.toNat_natCast]
      rw [List.getD_eq_getElem?_getD, List.getElem?_eq_getElem (by omega)]
      simp
    refine Ev.pos (by omega) (Ev.pos (by omega) (Ev.pos (by omega) (Ev.bind (likeInts_ev _ (by have := hr _ hm; omega)) (Ev.pos rfl ?_))))
    rw [w64' (by omega), show (i : Int) + 1 = ((i + 1 : Nat) : Int) by omega]
    exact ih (i + 1) (by omega)
theorem likeRows5_ev (x : List (List Int)) (hx : x.length ≤ 1000000) (hr : ∀ r ∈ x, r.length ≤ 1000000) : Ev (fun k => laws_likeRows5.f k x x) true := by
  simp only [laws_likeRows5.f]
  exact Ev.pos trivial (likeRows5_l0 x hx hr x.length 0 (by omega))
end Go.Proofs.YthgapkbkhoeleaaDoor.PAll
