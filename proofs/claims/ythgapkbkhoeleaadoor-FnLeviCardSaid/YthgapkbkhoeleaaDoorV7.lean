import Derived.Test.YthgapkbkhoeleaaDoorPAllx1
import Derived.Test.YthgapkbkhoeleaaDoorPAllx8
import Derived.Test.YthgapkbkhoeleaaDoorPAllx9
import Derived.Test.YthgapkbkhoeleaaDoorV0
import Derived.Test.YthgapkbkhoeleaaDoorV1
import Derived.Test.YthgapkbkhoeleaaDoorQBase
import Derived.Test.YthgapkbkhoeleaaDoorQDraw
import Derived.Test.YthgapkbkhoeleaaDoorQMask
import Derived.Test.YthgapkbkhoeleaaDoorQRev
import Derived.Test.YthgapkbkhoeleaaDoorQTrace
set_option linter.unusedVariables false
set_option linter.unusedSimpArgs false
namespace Go.Proofs.YthgapkbkhoeleaaDoor.PAll
open Go.RowKit Go.Proofs.YthgapkbkhoeleaaDoorW.PrintWords Go.Proofs.YthgapkbkhoeleaaDoorW.PrintMore Go.Proofs.YthgapkbkhoeleaaDoor.Q
theorem l01From_ev (c : List Int) (hc : c.length ≤ 4096) : ∃ h, Ev (fun k => spec_l01From.f k c) (c, 0, h) := by
  have loop : ∀ (d i : Nat) (h : Int), i + d = c.length → ∃ h', Ev (fun k => spec_l01From.l0 k c (i : Int) c 0 h) (c, 0, h') := by
    intro d
    induction d with
    | zero =>
      intro i h hi
      refine ⟨h, Ev.succ ?_⟩
      simp only [spec_l01From.l0]
      exact Ev.neg (by omega) (Ev.now _)
    | succ d ih =>
      intro i h hi
      obtain ⟨h', e⟩ := ih (i + 1) (IntKind.u64.wrap ((IntKind.u64.wrap ((IntKind.u64.wrap (h * 1099511628211)) + (IntKind.u64.wrap (rd c i)))) + 11)) (by omega)
      refine ⟨h', Ev.succ ?_⟩
      simp only [spec_l01From.l0]
      refine Ev.pos (by omega) (Ev.pos (by omega) (Ev.pos (by omega) ?_))
      rw [w64' (by omega)]
      exact e
  simp only [spec_l01From.f]
  exact loop c.length 0 _ (by omega)
theorem l01Next_ev {c : List Int} {a : Int} (hS : Src c a) (h n : Int) : ∃ v a' h', spec_l01Next.f c a h n = some (v, a', h') ∧ Src c a' ∧ 0 ≤ v ∧ (1 ≤ n → v < n) ∧ (n < 1 → v = 0) := by
  unfold spec_l01Next.f
  by_cases h1 : n < 1
  · rw [if_pos h1]
    exact ⟨_, _, _, rfl, hS, by omega, by omega, fun _ => rfl⟩
  · rw [if_neg h1]
    have hr := u64_range (IntKind.u64.wrap (h * 6364136223846793005) + 1442695040888963407)
    generalize IntKind.u64.wrap (IntKind.u64.wrap (h * 6364136223846793005) + 1442695040888963407) = H at hr
    obtain ⟨b, hb, b0, b1⟩ := u64_mask (H / 8589934592) (by omega) (by omega)
    rw [hb, w64' (x := b) (by omega)]
    obtain ⟨s1, s2, s3, s4⟩ := hS
    by_cases g : a < (c.length : Int)
    · rw [if_pos g, if_pos s3, if_neg (by omega)]
      obtain ⟨i, rfl⟩ := Int.eq_ofNat_of_zero_le s3
      have hx := s1 _ (List.getElem_mem (show i < c.length by omega))
      rw [rd_lt c i (by omega), w64' (x := c[i]) (by omega), w64' (x := b + c[i]) (by omega), w64' (x := (i : Int) + 1) (by omega)]
      have := tmod_range (b + c[i]) n (by omega) (by omega)
      exact ⟨_, _, _, rfl, ⟨s1, s2, by omega, by omega⟩, this.1, fun _ => this.2, by omega⟩
    · rw [if_neg g, if_neg (by omega)]
      have := tmod_range b n (by omega) (by omega)
      exact ⟨_, _, _, rfl, ⟨s1, s2, s3, s4⟩, this.1, fun _ => this.2, by omega⟩
theorem l01Pick_ev {c : List Int} {a : Int} (hS : Src c a) (h : Int) (l : List Int) (hl : 1 ≤ l.length) : ∃ v a' h', spec_l01Pick.f c a h l = some (v, a', h') ∧ Src c a' ∧ v ∈ l := by
  obtain ⟨v, a', h', e, s, v0, v1, _⟩ := l01Next_ev hS h (l.length : Int)
  unfold spec_l01Pick.f
  rw [e]
  simp only [Option.bind_some]
  have := v1 (by omega)
  obtain ⟨i, rfl⟩ := Int.eq_ofNat_of_zero_le v0
  rw [if_pos v0, if_pos this, rd_lt l i (by omega)]
  exact ⟨_, _, _, rfl, s, List.getElem_mem _⟩
theorem mk_single (n a : Nat) (ha : a < n) : mk n (fun b => decide (a = b)) = 2 ^ a := bits_ext fun i => by
  rw [testBit_mk, testBit_one]
  by_cases e : a = i
  · subst e; simp [ha]
  · simp [e]
theorem l02Free_ev (n : Nat) (hn : n ≤ 24) : Ev (fun k => spec_l02Free.f k (n : Int)) ((n : Int), mat n fun a b => decide (a = b)) := by
  have e : mat n (fun a b => decide (a = b)) = (List.range n).map fun i => ((2 ^ i : Nat) : Int) := by
    unfold mat
    refine List.map_congr_left fun i hi => ?_
    rw [mk_single n i (List.mem_range.1 hi)]
  rw [e]
  have loop : ∀ (d i : Nat), i + d = n → Ev (fun k => spec_l02Free.l0 k (n : Int) (i : Int) (n : Int) ((List.range i).map fun i => ((2 ^ i : Nat) : Int))) ((n : Int), (List.range n).map fun i => ((2 ^ i : Nat) : Int)) := by
    intro d
    induction d with
    | zero =>
      intro i hi
      obtain rfl : i = n := by omega
      refine Ev.succ ?_
      simp only [spec_l02Free.l0]
      exact Ev.neg (by omega) (Ev.now _)
    | succ d ih =>
      intro i hi
      refine Ev.succ ?_
      simp only [spec_l02Free.l0]
      refine Ev.pos (by omega) ?_
      rw [l01One_eq i (by omega), w64' (by omega)]
      refine Ev.some_bind (Ev.pos (by simp; omega) ?_)
      have := ih (i + 1) (by omega)
      rw [List.range_succ, List.map_append] at this
      exact this
  simp only [spec_l02Free.f]
  exact loop n 0 (by omega)
theorem mat_set (n : Nat) (f : Nat → Nat → Bool) (a b : Nat) (ha : a < n) (hb : b < n) : (mat n f).set a ((mk n (f a) ||| 2 ^ b : Nat) : Int) = mat n fun i k => f i k || (decide (i = a) && decide (k = b)) := by
  apply List.ext_getElem
  · simp
  · intro q h1 h2
    have hq : q < n := by simpa using h1
    rw [List.getElem_set]
    by_cases e : a = q
    · subst e
      rw [if_pos rfl]
      simp only [mat, List.getElem_map, List.getElem_range]
      congr 1
      refine bits_ext fun i => ?_
      rw [Nat.testBit_or, testBit_mk, testBit_mk, testBit_one]
      by_cases e : b = i
      · subst e; simp [hb]
      · simp [e, show ¬ i = b from fun h => e h.symm]
    · rw [if_neg e]
      simp only [mat, List.getElem_map, List.getElem_range]
      congr 1
      exact mk_congr fun i _ => by simp [show ¬ q = a from fun h => e h.symm]
theorem l02Join_eq (n : Nat) (hn : n ≤ 24) (f : Nat → Nat → Bool) (a b : Nat) (ha : a < n) (hb : b < n) :
    spec_l02Join.f (n : Int) (mat n f) (a : Int) (b : Int) = some (mat n fun i k => (f i k || (decide (i = a) && decide (k = b))) || (decide (i = b) && decide (k = a))) := by
  unfold spec_l02Join.f
  have p1 := pow24 hn
  have p2 : (2 : Nat) ^ a ≤ 2 ^ 24 := pow24 (by omega)
  have p3 : (2 : Nat) ^ b ≤ 2 ^ 24 := pow24 (by omega)
  have h1 := mk_lt n (f a)
  have h2 := mk_lt n (fun k => f b k || (decide (b = a) && decide (k = b)))
  rw [if_pos (by omega), if_pos (by simp; omega), show spec_l01One_Bl02Join.f (b : Int) = spec_l01One.f (b : Int) from rfl, show spec_l01One_Bl02Join.f (a : Int) = spec_l01One.f (a : Int) from rfl, l01One_eq a (by omega), l01One_eq b (by omega), rd_mat n f a ha]
  simp only [Option.bind_some]
  rw [b_or _ _ (by omega) (by omega), Int.toNat_natCast, mat_set n f a b ha hb]
  rw [if_pos (by omega), if_pos (by simp; omega), rd_mat n _ b hb, b_or _ _ (by omega) (by omega), Int.toNat_natCast, mat_set n _ b a hb ha]
/-- what is drawn: an alphabet of at most so many letters -/
def Drawn (c : List Int) (most : Nat) (r : Int × List Int × Int × Int) : Prop := ∃ (n : Nat) (f : Nat → Nat → Bool), r.1 = (n : Int) ∧ r.2.1 = mat n f ∧ n ≤ most ∧ n ≤ 8 ∧ (∀ a b, f a b = f b a) ∧ (∀ a, a < n → f a a = true) ∧ Src c r.2.2.1
theorem l02Draw_l0 (c : List Int) (most n : Nat) (hn : n ≤ most) (hn8 : n ≤ 8) (part : Int) : ∀ (d a : Nat), a + d = n → ∀ (f : Nat → Nat → Bool) (at_ h : Int), (∀ a b, f a b = f b a) → (∀ a, a < n → f a a = true) → Src c at_ →
    ∃ r, Drawn c most r ∧ Ev (fun k => spec_l02Draw.l0 k (n : Int) part (a : Int) c at_ h (n : Int) (mat n f)) r := by
  intro d
  induction d with
  | zero =>
    intro a ha f at_ h hs hr hS
    refine ⟨((n : Int), mat n f, at_, h), ⟨n, f, rfl, rfl, hn, hn8, hs, hr, hS⟩, Ev.succ ?_⟩
    simp only [spec_l02Draw.l0]
    exact Ev.neg (by omega) (Ev.now _)
  | succ d ih =>
    intro a ha f at_ h hs hr hS
    have inner : ∀ (e b : Nat), b + e = a → ∀ (f : Nat → Nat → Bool) (at_ h : Int), (∀ a b, f a b = f b a) → (∀ a, a < n → f a a = true) → Src c at_ →
        ∃ r, Drawn c most r ∧ Ev (fun k => spec_l02Draw.l1 k (n : Int) part (a : Int) (b : Int) c at_ h (n : Int) (mat n f)) r := by
      intro e
      induction e with
      | zero =>
        intro b hb f at_ h hs hr hS
        obtain ⟨r, hd, he⟩ := ih (a + 1) (by omega) f at_ h hs hr hS
        refine ⟨r, hd, Ev.succ ?_⟩
        simp only [spec_l02Draw.l1]
        refine Ev.neg (by omega) ?_
        rw [w64' (by omega)]
        exact he
      | succ e ihe =>
        intro b hb f at_ h hs hr hS
        obtain ⟨v, a1, h1, e1, s1, _⟩ := l01Next_ev hS h part
        by_cases g : v = 0
        · obtain ⟨r, hd, he⟩ := ihe (b + 1) (by omega) (fun i k => (f i k || (decide (i = a) && decide (k = b))) || (decide (i = b) && decide (k = a))) a1 h1 (fun x y => by
            rw [hs x y, Bool.eq_iff_iff]
            simp only [Bool.or_eq_true, Bool.and_eq_true, decide_eq_true_eq]
            constructor
            · rintro ((h | ⟨h1, h2⟩) | ⟨h1, h2⟩)
              · exact .inl (.inl h)
              · exact .inr ⟨h2, h1⟩
              · exact .inl (.inr ⟨h2, h1⟩)
            · rintro ((h | ⟨h1, h2⟩) | ⟨h1, h2⟩)
              · exact .inl (.inl h)
              · exact .inr ⟨h2, h1⟩
              · exact .inl (.inr ⟨h2, h1⟩)) (fun x hx => by simp [hr x hx]) s1
          refine ⟨r, hd, Ev.succ ?_⟩
          simp only [spec_l02Draw.l1]
          refine Ev.pos (by omega) ?_
          rw [e1]
          refine Ev.some_bind (Ev.pos g ?_)
          rw [l02Join_eq n (by omega) f a b (by omega) (by omega), w64' (by omega)]
          exact Ev.some_bind he
        · obtain ⟨r, hd, he⟩ := ihe (b + 1) (by omega) f a1 h1 hs hr s1
          refine ⟨r, hd, Ev.succ ?_⟩
          simp only [spec_l02Draw.l1]
          refine Ev.pos (by omega) ?_
          rw [e1]
          refine Ev.some_bind (Ev.neg g ?_)
          rw [w64' (by omega)]
          exact he
    obtain ⟨r, hd, he⟩ := inner a 0 (by omega) f at_ h hs hr hS
    refine ⟨r, hd, Ev.succ ?_⟩
    simp only [spec_l02Draw.l0]
    exact Ev.pos (by omega) he
theorem l02Draw_ev {c : List Int} {a : Int} (hS : Src c a) (h : Int) (most : Nat) (hm : most ≤ 8) : ∃ r, Drawn c most r ∧ Ev (fun k => spec_l02Draw.f k c a h (most : Int)) r := by
  have j1 : ∀ (n a h : Int), 0 ≤ n → n ≤ most → Src c a → ∃ r, Drawn c most r ∧ Ev (fun k => spec_l02Draw.j1 k n c a h) r := by
    intro n a h h0 h1 hS
    obtain ⟨m, rfl⟩ := Int.eq_ofNat_of_zero_le h0
    obtain ⟨v, a1, h1', e1, s1, _⟩ := l01Pick_ev hS h [2, 2, 3, 4] (by simp)
    obtain ⟨r, hd, he⟩ := l02Draw_l0 c most m (by omega) (by omega) v m 0 (by omega) (fun a b => decide (a = b)) a1 h1' (fun x y => by rw [decide_eq_decide]; exact ⟨Eq.symm, Eq.symm⟩) (by simp) s1
    refine ⟨r, hd, Ev.succ ?_⟩
    simp only [spec_l02Draw.j1]
    refine Ev.bind (l02Free_ev m (by omega)) ?_
    rw [e1]
    exact Ev.some_bind he
  have j0 : ∀ (b : Bool) (a h : Int), (b = true → 4 ≤ most) → Src c a → ∃ r, Drawn c most r ∧ Ev (fun k => spec_l02Draw.j0 k (most : Int) b c a h) r := by
    intro b a h hb hS
    cases b with
    | true =>
      refine ⟨((4 : Nat), [11, 7, 14, 13], a, h), ⟨4, fun x y => decide (x < 4 ∧ y < 4) && bitR [11, 7, 14, 13] x y, rfl, ?_, hb rfl, by omega, ?_, ?_, hS⟩, Ev.succ ?_⟩
      · exact (eq_mat [11, 7, 14, 13] (by decide)).trans (mat_congr fun i k hi hk => by
          have h1 : i < 4 := hi
          have h2 : k < 4 := hk
          simp [h1, h2])
      · intro x y
        have key : ∀ x, x < 4 → ∀ y, y < 4 → bitR [11, 7, 14, 13] x y = bitR [11, 7, 14, 13] y x := by decide
        show (decide (x < 4 ∧ y < 4) && bitR [11, 7, 14, 13] x y) = (decide (y < 4 ∧ x < 4) && bitR [11, 7, 14, 13] y x)
        by_cases hx : x < 4 <;> by_cases hy : y < 4 <;> simp [hx, hy]
        exact key x hx y hy
      · decide
      · simp only [spec_l02Draw.j0]
        exact Ev.pos trivial (Ev.now _)
    | false =>
      obtain ⟨v, a1, h1, e1, s1, v0, v1, _⟩ := l01Next_ev hS h (wrap64 ((most : Int) + 1))
      have w := w64' (x := (most : Int) + 1) (by omega)
      by_cases g : v < 2
      · obtain ⟨v2, a2, h2, e2, s2, u0, u1, _⟩ := l01Next_ev s1 h1 (wrap64 ((most : Int) + 1))
        obtain ⟨r, hd, he⟩ := j1 v2 a2 h2 u0 (by rw [w] at u1; have := u1 (by omega); omega) s2
        refine ⟨r, hd, Ev.succ ?_⟩
        simp only [spec_l02Draw.j0]
        refine Ev.neg (by simp) ?_
        rw [e1]
        refine Ev.some_bind (Ev.pos g ?_)
        rw [e2]
        exact Ev.some_bind he
      · obtain ⟨r, hd, he⟩ := j1 v a1 h1 v0 (by rw [w] at v1; have := v1 (by omega); omega) s1
        refine ⟨r, hd, Ev.succ ?_⟩
        simp only [spec_l02Draw.j0]
        refine Ev.neg (by simp) ?_
        rw [e1]
        exact Ev.some_bind (Ev.neg g he)
  by_cases h4 : 4 ≤ most
  · obtain ⟨v, a1, h1, e1, s1, _⟩ := l01Next_ev hS h 6
    obtain ⟨r, hd, he⟩ := j0 (v == 0) a1 h1 (fun _ => h4) s1
    refine ⟨r, hd, ?_⟩
    simp only [spec_l02Draw.f]
    refine Ev.pos (by omega) ?_
    rw [e1]
    exact Ev.some_bind he
  · obtain ⟨r, hd, he⟩ := j0 false a h (by simp) hS
    refine ⟨r, hd, ?_⟩
    simp only [spec_l02Draw.f]
    exact Ev.neg (by omega) he
theorem l02Spoil_ev {c : List Int} {a : Int} (hS : Src c a) (h : Int) (most : Nat) (hm : most ≤ 8) : ∃ n D a' h', Src c a' ∧ D.length ≤ 9 ∧ Ev (fun k => spec_l02Spoil.f k c a h (most : Int)) (n, D, a', h') := by
  obtain ⟨⟨n0, D0, a0, h0⟩, ⟨m, f, e1, e2, hm1, hm8, hs, hr, hS0⟩, hd⟩ := l02Draw_ev hS h most hm
  simp only at e1 e2 hS0
  subst e1 e2
  obtain ⟨v1, a1, h1, x1, s1, p1, _⟩ := l01Next_ev hS0 h0 14
  by_cases g1 : v1 > 0
  · refine ⟨(m : Int), mat m f, a1, h1, s1, by simp; omega, ?_⟩
    simp only [spec_l02Spoil.f]
    refine Ev.bind hd ?_
    simp only []
    rw [x1]
    exact Ev.some_bind (Ev.pos g1 (Ev.now _))
  · obtain ⟨v2, a2, h2, x2, s2, p2, _⟩ := l01Next_ev s1 h1 4
    by_cases g2 : v2 = 0
    · obtain ⟨v3, a3, h3, x3, s3, _⟩ := l01Pick_ev s2 h2 [-1, 9, wrap64 ((m : Int) + 1)] (by simp)
      refine ⟨v3, mat m f, a3, h3, s3, by simp; omega, ?_⟩
      simp only [spec_l02Spoil.f]
      refine Ev.bind hd ?_
      simp only []
      rw [x1]
      refine Ev.some_bind (Ev.neg g1 ?_)
      simp only []
      rw [x2]
      refine Ev.some_bind (Ev.pos g2 ?_)
      simp only []
      rw [x3]
      exact Ev.some_bind (Ev.now _)
    · by_cases g3 : v2 = 1
      · obtain ⟨v3, a3, h3, x3, s3, _⟩ := l01Pick_ev s2 h2 [0, 1, 255] (by simp)
        refine ⟨(m : Int), mat m f ++ [v3], a3, h3, s3, by simp; omega, ?_⟩
        simp only [spec_l02Spoil.f]
        refine Ev.bind hd ?_
        simp only []
        rw [x1]
        refine Ev.some_bind (Ev.neg g1 ?_)
        simp only []
        rw [x2]
        refine Ev.some_bind (Ev.neg g2 (Ev.pos g3 ?_))
        simp only []
        rw [x3]
        exact Ev.some_bind (Ev.pos (by simp; omega) (Ev.now _))
      · by_cases g4 : (m : Int) > 0
        · obtain ⟨v4, a4, h4, x4, s4, p4, q4, _⟩ := l01Next_ev s2 h2 (m : Int)
          have q4' := q4 (by omega)
          obtain ⟨i, rfl⟩ := Int.eq_ofNat_of_zero_le p4
          obtain ⟨v5, a5, h5, x5, s5, _⟩ := l01Next_ev s4 h4 ((2 ^ m : Nat) : Int)
          obtain ⟨v6, a6, h6, x6, s6, _⟩ := l01Pick_ev s5 h5 [wrap64 ((rd (mat m f) (i : Int)) - ((2 ^ i : Nat) : Int)), Go.bits .or .i64 (rd (mat m f) (i : Int)) ((2 ^ m : Nat) : Int), v5, -1] (by simp)
          refine ⟨(m : Int), (mat m f).set i v6, a6, h6, s6, by simp; omega, ?_⟩
          simp only [spec_l02Spoil.f]
          refine Ev.bind hd ?_
          simp only []
          rw [x1]
          refine Ev.some_bind (Ev.neg g1 ?_)
          simp only []
          rw [x2]
          refine Ev.some_bind (Ev.neg g2 (Ev.neg g3 (Ev.pos g4 ?_)))
          simp only []
          rw [x4]
          refine Ev.some_bind (Ev.pos (by omega) (Ev.pos (by simp; omega) ?_))
          rw [l01One_eq i (by omega), l01One_eq m (by omega)]
          refine Ev.some_bind (Ev.some_bind (Ev.some_bind ?_))
          simp only []
          rw [x5]
          refine Ev.some_bind ?_
          simp only []
          rw [x6]
          exact Ev.some_bind (Ev.now _)
        · refine ⟨(m : Int), mat m f, a2, h2, s2, by simp; omega, ?_⟩
          simp only [spec_l02Spoil.f]
          refine Ev.bind hd ?_
          simp only []
          rw [x1]
          refine Ev.some_bind (Ev.neg g1 ?_)
          simp only []
          rw [x2]
          exact Ev.some_bind (Ev.neg g2 (Ev.neg g3 (Ev.neg g4 (Ev.now _))))
end Go.Proofs.YthgapkbkhoeleaaDoor.PAll
