/- For every code, FnFirstLetters answers true: the first letters of a trace are those of its first step, its last letters are the first letters of its reverse, and a letter is a first one exactly if it is a prefix. No condition. -/
import Derived.Test.YtkiacoilecdepaaDoorPAllx1
import Derived.Test.YtkiacoilecdepaaDoorPAllx4
import Derived.Test.YtkiacoilecdepaaDoorPAllx5
import Derived.Test.YtkiacoilecdepaaDoorPAllx6
import Derived.Test.YtkiacoilecdepaaDoorPAllx8
import Derived.Test.YtkiacoilecdepaaDoorPAllx9
import Derived.Test.YtkiacoilecdepaaDoorV0
import Derived.Test.YtkiacoilecdepaaDoorV1
import Derived.Test.YtkiacoilecdepaaDoorV5
import Derived.Test.YtkiacoilecdepaaDoorQBase
import Derived.Test.YtkiacoilecdepaaDoorQFoata
import Derived.Test.YtkiacoilecdepaaDoorQMask
import Derived.Test.YtkiacoilecdepaaDoorQMeet
import Derived.Test.YtkiacoilecdepaaDoorQOrder
import Derived.Test.YtkiacoilecdepaaDoorQRev
import Derived.Test.YtkiacoilecdepaaDoorQTrace
import Derived.Test.YtkiacoilecdepaaDoorStmtFnFirstLetters
set_option linter.unusedVariables false
set_option linter.unusedSimpArgs false
namespace Go.Proofs.YtkiacoilecdepaaDoor.LFnFirstLetters
open Go.RowKit Go.Proofs.YtkiacoilecdepaaDoorW.PrintWords Go.Proofs.YtkiacoilecdepaaDoorW.PrintMore Go.Proofs.YtkiacoilecdepaaDoor.Q
open Go.Proofs.YtkiacoilecdepaaDoor.PAll
theorem firsts_both (n : Int) (D w : List Int) : ∃ r : Int × Int, Ev (fun k => spec_FirstLetters.f k n D w) r ∧ Ev (fun k => impl_FirstLetters.f k n D w) r ∧
    (r.2 = 0 → ∃ (m : Nat) (f : Nat → Nat → Bool) (u : List Nat), n = (m : Int) ∧ D = mat m f ∧ w = ints u ∧ m ≤ 8 ∧ (∀ a b, f a b = f b a) ∧ u.length ≤ 24 ∧ (∀ x ∈ u, x < m) ∧ Alpha (m : Int) (mat m f) ∧ r.1 = ((mk m (isFirst f u) : Nat) : Int)) := by
  have hc := l03Code_ev n D w w
  simp only [and_self] at hc
  have hk := checkWords_ev n D [w]
  have e : (∀ x ∈ [w], Word n x) ↔ Word n w := by simp
  simp only [e] at hk
  simp only [spec_FirstLetters.f, impl_FirstLetters.f, impl_Alphabet_ties.f]
  by_cases hA : Alpha n D
  · by_cases hW : Word n w
    · rw [if_pos hA, if_pos hW] at hc hk
      have hA2 := hA
      obtain ⟨m, f, rfl, rfl, hm, hs, hr⟩ := hA.form
      obtain ⟨u, rfl, hul, hu⟩ := hW.form
      refine ⟨(((mk m (isFirst f u) : Nat) : Int), 0), Ev.bind hc (Ev.pos rfl ?_), Ev.bind hk (Ev.pos rfl (Ev.some_bind (Ev.bind (firsts_ev m hm f u (by omega) hu) (Ev.now _)))), fun _ => ⟨m, f, u, rfl, rfl, rfl, hm, hs, hul, hu, hA2, rfl⟩⟩
      have := FirstLetters_l0 m hm f u (by omega) hu m 0 (by omega)
      exact this
    · rw [if_pos hA, if_neg hW] at hc hk
      exact ⟨(0, 2), Ev.bind hc (Ev.neg (by decide) (Ev.now _)), Ev.bind hk (Ev.neg (by decide) (Ev.now _)), fun h => by cases h⟩
  · rw [if_neg hA] at hc hk
    exact ⟨(0, 1), Ev.bind hc (Ev.neg (by decide) (Ev.now _)), Ev.bind hk (Ev.neg (by decide) (Ev.now _)), fun h => by cases h⟩
theorem rest_ev (m : Nat) (f : Nat → Nat → Bool) (hm : m ≤ 8) (hs : ∀ a b, f a b = f b a) (hA : Alpha (m : Int) (mat m f)) (u : List Nat) (hul : u.length ≤ 24) (hu : ∀ x ∈ u, x < m) : ∀ (d a : Nat), a + d = m →
    Ev (fun k => laws_FnFirstLetters.l0 k (ints u) ((mk m (isFirst f u) : Nat) : Int) (a : Int) (m : Int) (mat m f)) true := by
  intro d
  have hlt := mk_lt m (isFirst f u)
  have h24 := pow_lt62 (show m ≤ 24 by omega)
  induction d with
  | zero =>
    intro a ha
    refine Ev.succ ?_
    simp only [laws_FnFirstLetters.l0]
    exact Ev.neg (by omega) (Ev.now _)
  | succ d ih =>
    intro a ha
    have i1 := ih (a + 1) (by omega)
    have h1 : ∀ x ∈ [a], x < m := fun x hx => by rw [List.mem_singleton.1 hx]; omega
    have hk := check_ok hA [ints [a], ints u] (fun w hw => by
      rcases List.mem_cons.1 hw with rfl | hw
      · exact Word.of (by simp) h1
      · rw [List.mem_singleton.1 hw]; exact Word.of hul hu)
    have hq := quotient_ev m hm f [a] u (by simp) (by omega) h1 hu
    have hc : (cutR f [a] u).2 = isFirst f u a := by
      unfold cutR
      rw [cutP_cons]
      by_cases h : isFirst f u a = true
      · rw [if_pos h, h]; rfl
      · rw [if_neg h]; simpa using h
    have hp : Ev (fun k => impl_IsPrefix.f k (m : Int) (mat m f) [(a : Int)] (ints u)) (isFirst f u a, 0) := by
      simp only [impl_IsPrefix.f, impl_Alphabet_ties.f]
      rw [← hc]
      exact Ev.bind hk (Ev.pos rfl (Ev.some_bind (Ev.bind hq (Ev.now _))))
    refine Ev.succ ?_
    simp only [laws_FnFirstLetters.l0]
    refine Ev.pos (by omega) (Ev.bind hp (Ev.pos rfl ?_))
    rw [u64_nat a (by omega), bit_at _ a (by omega) (by omega), testBit_mk, w64' (by omega)]
    refine Ev.pos (by omega) (Ev.neg ?_ i1)
    simp [show a < m by omega]
theorem law_ev (c : List Int) (hc : c.length ≤ 17592186044416) (hb : ∀ x ∈ c, 0 ≤ x ∧ x ≤ 255) : Ev (fun k => laws_FnFirstLetters.f k c) true := by
  simp only [laws_FnFirstLetters.f, laws_big.f]
  refine Ev.some_bind (Ev.ite (fun _ => Ev.now _) (fun g => ?_))
  obtain ⟨a, h, n, D, w, _, _, _, hd⟩ := l03Pair_ev c hb (by simp at g; omega) 8 24 (by omega) (by omega)
  have hd' : Ev (fun k => spec_DrawFirstLetters.f k c) (n, D, w) := by
    simp only [spec_DrawFirstLetters.f]
    exact Ev.bind hd (Ev.now _)
  obtain ⟨r, h1, h2, h3⟩ := firsts_both n D w
  refine Ev.bind hd' (Ev.bind h2 (Ev.bind h1 (Ev.pos rfl (Ev.succ ?_))))
  simp only [laws_FnFirstLetters.j0]
  refine Ev.neg (by simp) (Ev.ite (fun k0 => ?_) (fun _ => Ev.now _))
  obtain ⟨m, f, u, rfl, rfl, rfl, hm, hs, hul, hu, hA, hr1⟩ := h3 k0
  have hru : ∀ x ∈ u.reverse, x < m := fun x hx => hu x (by simpa using hx)
  have hnl := normalP_length f hs hru
  have hnlt := normalP_lt f hs hru
  rw [List.length_reverse] at hnl
  have hk := check_ok hA [ints u] (fun w hw => by rw [List.mem_singleton.1 hw]; exact Word.of hul hu)
  have hk2 := check_ok hA [ints (normalP f m u.reverse)] (fun w hw => by rw [List.mem_singleton.1 hw]; exact Word.of (by omega) hnlt)
  have hF : Ev (fun k => impl_FoataForm.f k (m : Int) (mat m f) (ints u)) (ints (foataP f u), 0) := by
    simp only [impl_FoataForm.f, impl_Alphabet_ties.f]
    exact Ev.bind hk (Ev.pos rfl (Ev.some_bind (Ev.bind (foata_ev m hm f hs u (by omega) hu) (Ev.now _))))
  have hR : Ev (fun k => impl_ReverseOf.f k (m : Int) (mat m f) (ints u)) (ints (normalP f m u.reverse), 0) := by
    simp only [impl_ReverseOf.f, impl_Alphabet_ties.f]
    exact Ev.bind hk (Ev.pos rfl (Ev.some_bind (Ev.bind (reversed_ev u (by omega)) (Ev.bind (normal_ev m hm f _ (by simp; omega) hru) (Ev.now _)))))
  have hL : Ev (fun k => impl_LastLetters.f k (m : Int) (mat m f) (ints u)) (((mk m (isFirst f u.reverse) : Nat) : Int), 0) := by
    simp only [impl_LastLetters.f, impl_Alphabet_ties.f, impl_ties_lasts.f]
    exact Ev.bind hk (Ev.pos rfl (Ev.some_bind (Ev.bind (Ev.bind (reversed_ev u (by omega)) (Ev.bind (firsts_ev m hm f _ (by simp; omega) hru) (Ev.now _))) (Ev.now _))))
  have hB : Ev (fun k => impl_FirstLetters.f k (m : Int) (mat m f) (ints (normalP f m u.reverse))) (((mk m (isFirst f u.reverse) : Nat) : Int), 0) := by
    have e : mk m (isFirst f u.reverse) = mk m (isFirst f (normalP f m u.reverse)) := mk_congr fun a _ => (TrEq.first f hs (normalP_TrEq f hs _ u.reverse rfl hru) a).1.symm
    simp only [impl_FirstLetters.f, impl_Alphabet_ties.f]
    rw [e]
    exact Ev.bind hk2 (Ev.pos rfl (Ev.some_bind (Ev.bind (firsts_ev m hm f _ (by omega) hnlt) (Ev.now _))))
  refine Ev.bind hF (Ev.bind hR (Ev.bind hL (Ev.bind hB (Ev.pos rfl (Ev.pos rfl (Ev.pos rfl (Ev.pos rfl (Ev.succ ?_))))))))
  simp only [laws_FnFirstLetters.j1]
  refine Ev.neg (by simp) ?_
  have fin := rest_ev m f hm hs hA u hul hu m 0 (by omega)
  have last : Ev (fun k => laws_FnFirstLetters.j2 k (ints u) ((mk m (isFirst f u) : Nat) : Int) false (m : Int) (mat m f)) true := by
    refine Ev.succ ?_
    simp only [laws_FnFirstLetters.j2]
    exact Ev.neg (by simp) fin
  rw [hr1]
  by_cases hne : u = []
  · subst hne
    refine Ev.pos (by rw [foataP_nil]; rfl) (Ev.pos ?_ (Ev.neg (by rw [foataP_nil]; simp [ints]) last))
    rw [show mk m (isFirst f []) = 0 from Nat.eq_of_testBit_eq fun i => by rw [testBit_mk]; simp [isFirst]]
    rfl
  · obtain ⟨q1, q2⟩ := foataP_first f hu hne
    have hrd : rd (ints (foataP f u)) 0 = ((mk m (isFirst f u) : Nat) : Int) := by
      have := rd_getD (foataP f u) 0
      rw [q2] at this
      exact this
    refine Ev.neg (by rw [ints_length]; omega) (Ev.pos (by rw [ints_length]; omega) (Ev.pos (by rw [ints_length]; omega) ?_))
    rw [hrd, show (((mk m (isFirst f u) : Nat) : Int) != ((mk m (isFirst f u) : Nat) : Int)) = false by simp]
    exact last
theorem big_ev (c : List Int) (h : 4096 < c.length) : Ev (fun k => laws_FnFirstLetters.f k c) true := by
  simp only [laws_FnFirstLetters.f, laws_big.f]
  exact Ev.some_bind (Ev.pos (by simp; omega) (Ev.now _))
theorem pure : PureStmt := fun c _ h2 => by
  by_cases h : c.length ≤ 4096
  · exact (law_ev c (by omega) (fun x hx => u8_bounds (h2 x hx))).rounds
  · exact (big_ev c (by omega)).rounds
end Go.Proofs.YtkiacoilecdepaaDoor.LFnFirstLetters
