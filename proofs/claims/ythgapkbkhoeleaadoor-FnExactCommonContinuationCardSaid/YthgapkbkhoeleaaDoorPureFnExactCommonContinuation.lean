/- For every alphabet and list of words, FnExactCommonContinuation answers true: the program's CommonContinuation and the reference's come to the same, leave their arguments alone, and share no memory. No condition. -/
import Derived.Test.YthgapkbkhoeleaaDoorPAllx0
import Derived.Test.YthgapkbkhoeleaaDoorPAllx1
import Derived.Test.YthgapkbkhoeleaaDoorPAllx2
import Derived.Test.YthgapkbkhoeleaaDoorPAllx3
import Derived.Test.YthgapkbkhoeleaaDoorPAllx4
import Derived.Test.YthgapkbkhoeleaaDoorV0
import Derived.Test.YthgapkbkhoeleaaDoorV1
import Derived.Test.YthgapkbkhoeleaaDoorQBase
import Derived.Test.YthgapkbkhoeleaaDoorQFoata
import Derived.Test.YthgapkbkhoeleaaDoorQMeet
import Derived.Test.YthgapkbkhoeleaaDoorQOrder
import Derived.Test.YthgapkbkhoeleaaDoorQRev
import Derived.Test.YthgapkbkhoeleaaDoorQTrace
import Derived.Test.YthgapkbkhoeleaaDoorStmtFnExactCommonContinuation
set_option linter.unusedVariables false
set_option linter.unusedSimpArgs false
namespace Go.Proofs.YthgapkbkhoeleaaDoor.LFnExactCommonContinuation
open Go.RowKit Go.Proofs.YthgapkbkhoeleaaDoorW.PrintWords Go.Proofs.YthgapkbkhoeleaaDoorW.PrintMore Go.Proofs.YthgapkbkhoeleaaDoor.Q
open Go.Proofs.YthgapkbkhoeleaaDoor.PAll
theorem rdL_mid (pre suf : List (List Int)) (r : List Int) : rd_L1 (pre ++ r :: suf) (pre.length : Int) = r := by
  simp only [rd_L1]
  rw [Int.toNat_natCast, List.getD_eq_getElem?_getD]
  simp
theorem szInt64SS_l0 : ∀ (suf pre : List (List Int)) (c : Int), (pre ++ suf).length ≤ 9000000000000000000 → (∀ r ∈ suf, r.length ≤ 9223372036854775807) → 0 ≤ c → c ≤ 1048576 → ∃ z : Int, Ev (fun k => laws_szInt64SS.l0 k (pre ++ suf) c (pre.length : Int)) z ∧ (¬ z < 0 → ∀ r ∈ suf, (r.length : Int) ≤ c) := by
  intro suf
  induction suf with
  | nil =>
    intro pre c hl hr h0 h1
    refine ⟨c, Ev.succ ?_, fun _ r h => by cases h⟩
    simp only [laws_szInt64SS.l0]
    exact Ev.neg (by simp) (Ev.now _)
  | cons x suf ih =>
    intro pre c hl hr h0 h1
    have hx := hr x (List.mem_cons_self ..)
    have hl' := hl
    simp only [List.length_append, List.length_cons] at hl'
    have hsz := szInt64S_eq x c h0 h1 hx
    by_cases g : (x.length : Int) ≤ c
    · rw [if_pos g] at hsz
      obtain ⟨z, e, hz⟩ := ih (pre ++ [x]) (c - (x.length : Int)) (by simp; omega) (fun r h => hr r (List.mem_cons_of_mem _ h)) (by omega) (by omega)
      refine ⟨z, Ev.succ ?_, fun n r h => ?_⟩
      · simp only [laws_szInt64SS.l0]
        refine Ev.pos (by simp; omega) (Ev.pos (by omega) ?_)
        rw [rdL_mid, hsz]
        refine Ev.some_bind (Ev.neg (by omega) ?_)
        rw [w64' (by omega), show (pre.length : Int) + 1 = (((pre ++ [x]).length : Nat) : Int) by simp]
        rw [List.append_assoc, List.singleton_append] at e
        exact e
      · rcases List.mem_cons.1 h with rfl | h
        · exact g
        · have := hz n r h; omega
    · rw [if_neg g] at hsz
      refine ⟨-1, Ev.succ ?_, fun n => absurd (by decide) n⟩
      simp only [laws_szInt64SS.l0]
      refine Ev.pos (by simp; omega) (Ev.pos (by omega) ?_)
      rw [rdL_mid, hsz]
      exact Ev.some_bind (Ev.pos (by decide) (Ev.now _))
theorem szInt64SS_ev (l : List (List Int)) (c : Int) (hl : l.length ≤ 9223372036854775807) (hr : ∀ r ∈ l, r.length ≤ 9223372036854775807) (h0 : 0 ≤ c) (h1 : c ≤ 1048576) : ∃ z : Int, Ev (fun k => laws_szInt64SS.f k l c) z ∧ (¬ z < 0 → (l.length : Int) ≤ c ∧ ∀ r ∈ l, (r.length : Int) ≤ c) := by
  simp only [laws_szInt64SS.f]
  rw [w64 (by omega) (by omega)]
  by_cases g : c - (l.length : Int) < 0
  · exact ⟨-1, Ev.pos g (Ev.now _), fun n => absurd (by decide) n⟩
  · obtain ⟨z, e, hz⟩ := szInt64SS_l0 l [] (c - (l.length : Int)) (by simp; omega) hr (by omega) (by omega)
    exact ⟨z, Ev.neg g e, fun n => ⟨by omega, fun r h => by have := hz n r h; omega⟩⟩
theorem toInt64SS_l0 : ∀ (suf pre : List (List Int)), (pre ++ suf).length ≤ 9000000000000000000 → (∀ r ∈ suf, r.length ≤ 17592186044416) → Ev (fun k => laws_toInt64SS.l0 k (pre ++ suf) (pre ++ List.replicate suf.length []) (pre.length : Int)) (pre ++ suf) := by
  intro suf
  induction suf with
  | nil =>
    intro pre hl hr
    refine Ev.succ ?_
    simp only [laws_toInt64SS.l0]
    exact Ev.neg (by simp) (Ev.now _)
  | cons x suf ih =>
    intro pre hl hr
    have hx := hr x (List.mem_cons_self ..)
    have hl' := hl
    simp only [List.length_append, List.length_cons] at hl'
    have e := ih (pre ++ [x]) (by simp; omega) (fun r h => hr r (List.mem_cons_of_mem _ h))
    rw [List.append_assoc, List.singleton_append] at e
    refine Ev.succ ?_
    simp only [laws_toInt64SS.l0]
    refine Ev.pos (by simp; omega) (Ev.pos (by omega) ?_)
    rw [rdL_mid]
    refine Ev.bind (toInt64S_ev x hx) (Ev.pos (by simp; omega) ?_)
    rw [w64' (by omega), show (pre.length : Int) + 1 = (((pre ++ [x]).length : Nat) : Int) by simp, Int.toNat_natCast, show (pre ++ List.replicate (x :: suf).length ([] : List Int)).set pre.length x = pre ++ [x] ++ List.replicate suf.length [] by simp [List.replicate_succ]]
    exact e
theorem toInt64SS_ev (l : List (List Int)) (hl : l.length ≤ 11728124029610) (hr : ∀ r ∈ l, r.length ≤ 17592186044416) : Ev (fun k => laws_toInt64SS.f k l) l := by
  simp only [laws_toInt64SS.f]
  refine Ev.pos (by omega) (Ev.pos (by omega) ?_)
  rw [Int.toNat_natCast]
  exact toInt64SS_l0 l [] (by simp; omega) hr
theorem cont_step {m : Nat} {f : Nat → Nat → Bool} (hs : ∀ a b, f a b = f b a) {U V v p a b p2 a2 b2 : List Nat} (t : TrEq f U V) (h : Meets f U v p a b) (h2 : Meets f V v p2 a2 b2) :
    apartP f a b = apartP f a2 b2 ∧ TrEq f (p ++ a ++ b) (V ++ b2) := by
  obtain ⟨a3, b3, h3, ta, tb⟩ := Meets.TrEq f hs h t (TrEq.refl f v)
  obtain ⟨_, ea, eb⟩ := Meets.unique f hs h3 h2
  subst ea eb
  refine ⟨?_, ?_⟩
  · have ma : ∀ x, x ∈ a ↔ x ∈ a3 := fun x => TrEq.mem f ta x
    have mb : ∀ x, x ∈ b ↔ x ∈ b3 := fun x => TrEq.mem f tb x
    rw [Bool.eq_iff_iff, apartP_iff, apartP_iff]
    exact ⟨fun H x hx y hy => H x ((ma x).2 hx) y ((mb y).2 hy), fun H x hx y hy => H x ((ma x).1 hx) y ((mb y).1 hy)⟩
  · exact TrEq.trans f hs (join_TrEq hs h.1 b) (TrEq.trans f hs (TrEq.append_right f hs t b) (TrEq.append_left f V tb))
theorem cont_loop {m : Nat} (hm : m ≤ 8) {f : Nat → Nat → Bool} (hs : ∀ a b, f a b = f b a) (us : List (List Nat)) (hn : us.length ≤ 24) (hus : ∀ u ∈ us, u.length ≤ 24 ∧ ∀ x ∈ u, x < m) :
    ∀ (suf pre : List (List Nat)) (U V : List Nat), pre ++ suf = us → TrEq f U V → U.length ≤ 24 * pre.length → (∀ x ∈ U, x < m) → (∀ x ∈ V, x < m) → ∃ r : List Int × Int, r.1.length ≤ 24 ∧
      Ev (fun k => spec_CommonContinuation.l1 k (us.map ints) (ints U) (pre.length : Int) (m : Int) (mat m f)) r ∧ Ev (fun k => impl_CommonContinuation.l0 k (ints V) (us.map ints) ((us.map ints).length : Int) (pre.length : Int) (m : Int) (mat m f)) r := by
  intro suf
  induction suf with
  | nil =>
    intro pre U V hp t hl hU hV
    rw [List.append_nil] at hp
    subst hp
    have hlV : U.length = V.length := TrEq.length f t
    have lim := limited_ev m hm f V (by omega) hV
    by_cases g : 24 < V.length
    · rw [if_pos g] at lim
      refine ⟨([], 3), by simp, Ev.succ ?_, Ev.succ ?_⟩
      · simp only [spec_CommonContinuation.l1]
        exact Ev.neg (by simp) (Ev.pos (by rw [ints_length]; omega) (Ev.now _))
      · simp only [impl_CommonContinuation.l0, impl_Alphabet_ties.f]
        exact Ev.neg (by simp) (Ev.some_bind (Ev.bind lim (Ev.now _)))
    · rw [if_neg g] at lim
      have nl := normalP_length f hs hV
      refine ⟨(ints (normalP f m V), 0), by rw [ints_length, nl]; omega, Ev.succ ?_, Ev.succ ?_⟩
      · simp only [spec_CommonContinuation.l1]
        refine Ev.neg (by simp) (Ev.neg (by rw [ints_length]; omega) (Ev.bind (l03Normal_ev m (by omega) f U (by omega) hU) (Ev.const ?_)))
        rw [normalP_congr f hs hU hV t]
      · simp only [impl_CommonContinuation.l0, impl_Alphabet_ties.f]
        exact Ev.neg (by simp) (Ev.some_bind (Ev.bind lim (Ev.now _)))
  | cons u suf ih =>
    intro pre U V hp t hl hU hV
    have hu := hus u (by rw [← hp]; simp)
    have hlen : us.length = pre.length + (suf.length + 1) := by rw [← hp]; simp
    have hlV : U.length = V.length := TrEq.length f t
    have hrd : rd_L1 (us.map ints) (pre.length : Int) = ints u := by
      rw [← hp, List.map_append, List.map_cons]
      have := rdL_mid (pre.map ints) (suf.map ints) (ints u)
      rw [List.length_map] at this
      exact this
    obtain ⟨p, a, b, h, e⟩ := l05Join_ev m (by omega) f U u (by omega) (by omega) hU hu.2
    obtain ⟨p2, a2, b2, h2, e2⟩ := residual_ev m hm f V u (by omega) (by omega) hV hu.2
    obtain ⟨eq, t2⟩ := cont_step (m := m) hs t h h2
    have l1 := cutP_length f h.1
    have l2 := cutP_length f h.2.1
    have l3 := cutP_length f h2.2.1
    have hp1 : ∀ x ∈ p, x < m := fun x hx => hU x (cutP_mem f h.1 x hx)
    have ha : ∀ x ∈ a, x < m := fun x hx => hU x (cutP_sub f h.1 x hx)
    have hb : ∀ x ∈ b, x < m := fun x hx => hu.2 x (cutP_sub f h.2.1 x hx)
    have hb2 : ∀ x ∈ b2, x < m := fun x hx => hu.2 x (cutP_sub f h2.2.1 x hx)
    by_cases c : apartP f a b = true
    · rw [if_pos c] at e
      obtain ⟨r, r1, r2, r3⟩ := ih (pre ++ [u]) (p ++ a ++ b) (V ++ b2) (by rw [← hp]; simp) t2 (by simp; omega) (mem_app (mem_app hp1 ha) hb) (mem_app hV hb2)
      rw [show (((pre ++ [u]).length : Nat) : Int) = (pre.length : Int) + 1 by simp] at r2 r3
      refine ⟨r, r1, Ev.succ ?_, Ev.succ ?_⟩
      · simp only [spec_CommonContinuation.l1]
        refine Ev.pos (by rw [List.length_map]; omega) (Ev.pos (by omega) ?_)
        rw [hrd]
        refine Ev.bind e (Ev.pos rfl ?_)
        rw [w64' (by omega)]
        exact r2
      · simp only [impl_CommonContinuation.l0, impl_Alphabet_ties.f]
        refine Ev.pos (by rw [List.length_map]; omega) (Ev.pos (by omega) (Ev.pos (by rw [List.length_map]; omega) ?_))
        rw [hrd]
        refine Ev.some_bind (Ev.bind e2 (Ev.pos (eq ▸ c) ?_))
        simp only [slices_Concat_int64_int64.f]
        rw [if_pos (by simp; omega)]
        simp only [Option.bind_some, List.flatten_cons, List.flatten_nil, List.append_nil, ← ints_append]
        rw [w64' (by omega)]
        exact r3
    · rw [if_neg c] at e
      refine ⟨([], 4), by simp, Ev.succ ?_, Ev.succ ?_⟩
      · simp only [spec_CommonContinuation.l1]
        refine Ev.pos (by rw [List.length_map]; omega) (Ev.pos (by omega) ?_)
        rw [hrd]
        exact Ev.bind e (Ev.neg (by decide) (Ev.now _))
      · simp only [impl_CommonContinuation.l0, impl_Alphabet_ties.f]
        refine Ev.pos (by rw [List.length_map]; omega) (Ev.pos (by omega) (Ev.pos (by rw [List.length_map]; omega) ?_))
        rw [hrd]
        exact Ev.some_bind (Ev.bind e2 (Ev.neg (fun z => c (eq.trans z)) (Ev.now _)))
theorem words_form {m : Nat} : ∀ (ws : List (List Int)), (∀ w ∈ ws, Word (m : Int) w) → ∃ us : List (List Nat), ws = us.map ints ∧ ∀ u ∈ us, u.length ≤ 24 ∧ ∀ x ∈ u, x < m := by
  intro ws
  induction ws with
  | nil => intro _; exact ⟨[], rfl, fun u h => by cases h⟩
  | cons w ws ih =>
    intro h
    obtain ⟨us, rfl, hus⟩ := ih (fun x hx => h x (List.mem_cons_of_mem _ hx))
    obtain ⟨u, rfl, hl, hu⟩ := (h w (List.mem_cons_self ..)).form
    exact ⟨u :: us, rfl, fun x hx => by
      rcases List.mem_cons.1 hx with rfl | hx
      · exact ⟨hl, hu⟩
      · exact hus x hx⟩
theorem words_ok {m : Nat} (hm : m ≤ 8) (D : List Int) (ws : List (List Int)) (hn : ws.length ≤ 24) (h : ∀ w ∈ ws, Word (m : Int) w) (r : List Int × Int) (e : Ev (fun k => spec_CommonContinuation.l1 k ws [] 0 (m : Int) D) r) :
    ∀ (suf pre : List (List Int)), pre ++ suf = ws → Ev (fun k => spec_CommonContinuation.l0 k ws (pre.length : Int) (m : Int) D) r := by
  intro suf
  induction suf with
  | nil =>
    intro pre hp
    rw [List.append_nil] at hp
    subst hp
    refine Ev.succ ?_
    simp only [spec_CommonContinuation.l0]
    exact Ev.neg (by simp) e
  | cons x suf ih =>
    intro pre hp
    have hlen : ws.length = pre.length + (suf.length + 1) := by rw [← hp]; simp
    have nx := ih (pre ++ [x]) (by rw [← hp]; simp)
    rw [show (((pre ++ [x]).length : Nat) : Int) = (pre.length : Int) + 1 by simp] at nx
    have hrd : rd_L1 ws (pre.length : Int) = x := by rw [← hp]; exact rdL_mid pre suf x
    refine Ev.succ ?_
    simp only [spec_CommonContinuation.l0]
    refine Ev.pos (by omega) (Ev.pos (by omega) ?_)
    rw [hrd]
    refine Ev.bind (l03Word_ev (m : Int) (by omega) x) (Ev.pos (decide_eq_true (h x (by rw [← hp]; simp))) ?_)
    rw [w64' (by omega)]
    exact nx
theorem words_bad {m : Nat} (hm : m ≤ 8) (D : List Int) (ws : List (List Int)) (hn : ws.length ≤ 24) :
    ∀ (suf pre : List (List Int)), pre ++ suf = ws → ¬ (∀ w ∈ suf, Word (m : Int) w) → Ev (fun k => spec_CommonContinuation.l0 k ws (pre.length : Int) (m : Int) D) ([], 2) := by
  intro suf
  induction suf with
  | nil => intro pre hp h; exact absurd (fun w hw => by cases hw) h
  | cons x suf ih =>
    intro pre hp h
    have hlen : ws.length = pre.length + (suf.length + 1) := by rw [← hp]; simp
    have hrd : rd_L1 ws (pre.length : Int) = x := by rw [← hp]; exact rdL_mid pre suf x
    refine Ev.succ ?_
    simp only [spec_CommonContinuation.l0]
    refine Ev.pos (by omega) (Ev.pos (by omega) ?_)
    rw [hrd]
    by_cases g : Word (m : Int) x
    · have nx := ih (pre ++ [x]) (by rw [← hp]; simp) (fun z => h fun w hw => by
        rcases List.mem_cons.1 hw with rfl | hw
        · exact g
        · exact z w hw)
      rw [show (((pre ++ [x]).length : Nat) : Int) = (pre.length : Int) + 1 by simp] at nx
      refine Ev.bind (l03Word_ev (m : Int) (by omega) x) (Ev.pos (decide_eq_true g) ?_)
      rw [w64' (by omega)]
      exact nx
    · exact Ev.bind (l03Word_ev (m : Int) (by omega) x) (Ev.neg (by simp [g]) (Ev.now _))
theorem both_ev (n : Int) (D : List Int) (ws : List (List Int)) : ∃ r : List Int × Int, r.1.length ≤ 24 ∧ Ev (fun k => spec_CommonContinuation.f k n D ws) r ∧ Ev (fun k => impl_CommonContinuation.f k n D ws) r := by
  have hc := l02Is_ev n D
  have hk := checkWords_ev n D ws
  simp only [spec_CommonContinuation.f, impl_CommonContinuation.f]
  by_cases hA : Alpha n D
  · rw [if_pos hA] at hk
    obtain ⟨m, f, rfl, rfl, hm, hs, hr⟩ := hA.form
    by_cases hL : ws.length ≤ 24
    · by_cases hW : ∀ w ∈ ws, Word (m : Int) w
      · rw [if_pos hW] at hk
        obtain ⟨us, rfl, hus⟩ := words_form ws hW
        obtain ⟨r, r1, r2, r3⟩ := cont_loop hm hs us (by simpa using hL) hus us [] [] [] rfl (TrEq.refl f []) (by simp) (fun x hx => by cases hx) (fun x hx => by cases hx)
        refine ⟨r, r1, Ev.bind hc (Ev.pos (decide_eq_true hA) (Ev.neg (by omega) ?_)), Ev.bind hk (Ev.pos rfl (Ev.neg (by omega) r3))⟩
        exact words_ok hm (mat m f) (us.map ints) hL hW r r2 (us.map ints) [] rfl
      · rw [if_neg hW] at hk
        exact ⟨([], 2), by simp, Ev.bind hc (Ev.pos (decide_eq_true hA) (Ev.neg (by omega) (words_bad hm (mat m f) ws hL ws [] rfl hW))), Ev.bind hk (Ev.neg (by decide) (Ev.now _))⟩
    · refine ⟨([], 2), by simp, Ev.bind hc (Ev.pos (decide_eq_true hA) (Ev.pos (by omega) (Ev.now _))), Ev.bind hk (Ev.ite (fun _ => Ev.pos (by omega) (Ev.now _)) (fun g => ?_))⟩
      by_cases hW : ∀ w ∈ ws, Word (m : Int) w
      · rw [if_pos hW] at g; exact absurd rfl g
      · rw [if_neg hW]; exact Ev.now _
  · rw [if_neg hA] at hk
    exact ⟨([], 1), by simp, Ev.bind hc (Ev.neg (by simp [hA]) (Ev.now _)), Ev.bind hk (Ev.neg (by decide) (Ev.now _))⟩
theorem law_ev (n : Int) (D : List Int) (l1 : List (List Int)) (hD : D.length ≤ maxLen) (hl1 : l1.length ≤ maxLen) (hr1 : ∀ r ∈ l1, r.length ≤ maxLen) : Ev (fun k => laws_FnExactCommonContinuation.f k n D l1) true := by
  unfold maxLen at hD hl1 hr1
  simp only [laws_FnExactCommonContinuation.f]
  rw [szAlphabet_eq n D 1048576 (by omega) (by omega) hD]
  refine Ev.some_bind (Ev.ite (fun c2 => Ev.now _) (fun c2 => ?_))
  have hD' : (D.length : Int) ≤ 1048576 := by
    by_cases g : (D.length : Int) ≤ 1048576
    · exact g
    · rw [if_neg g] at c2; omega
  rw [if_pos hD']
  obtain ⟨z, ez, hz⟩ := szInt64SS_ev l1 (1048576 - (D.length : Int)) (by omega) (fun r h => by have := hr1 r h; omega) (by omega) (by omega)
  refine Ev.bind ez (Ev.ite (fun _ => Ev.now _) (fun c3 => ?_))
  obtain ⟨s1, s2⟩ := hz c3
  have hl : l1.length ≤ 2000000 := by omega
  have hr : ∀ r ∈ l1, r.length ≤ 2000000 := fun r h => by have := s2 r h; omega
  have hA := toAlphabet_ev n D (by omega)
  have eA := eqAlphabet_ev n D (by omega)
  have tl := toInt64SS_ev l1 (by omega) (fun r h => by have := hr r h; omega)
  have el := eqInt64SS_big l1 hl hr
  obtain ⟨r, r1, hs, hi⟩ := both_ev n D l1
  have er := eqInt64S_ev r.1 (by omega)
  have mA := markAlphabet_ev n D 1 (by omega) (by omega) (by omega)
  have ml := markInt64SS_big l1 (1 + (D.length : Int)) hl hr (by omega) (by omega)
  have mr := markInt64S_ev r.1 1 (by omega) (by omega) (by omega)
  have he := heldInt64S_ev r.1 1 (by omega) (by omega)
  refine Ev.bind hA ?_
  refine Ev.bind tl ?_
  refine Ev.bind hs ?_
  refine Ev.bind hA ?_
  refine Ev.bind tl ?_
  refine Ev.bind hi ?_
  refine Ev.bind er (Ev.pos rfl (Ev.pos rfl ?_))
  refine Ev.bind hA (Ev.bind eA (Ev.pos rfl ?_))
  refine Ev.bind tl (Ev.bind el (Ev.pos rfl ?_))
  refine Ev.bind mA ?_
  refine Ev.bind ml ?_
  refine Ev.neg (by simp only []; omega) ?_
  refine Ev.bind er (Ev.pos rfl ?_)
  refine Ev.bind mr (Ev.bind he (Ev.neg (by omega) (Ev.pos rfl ?_)))
  refine Ev.bind hA ?_
  refine Ev.bind tl ?_
  refine Ev.bind hi (Ev.bind er (Ev.pos rfl (Ev.pos rfl ?_)))
  exact Ev.bind he (Ev.neg (by omega) (Ev.pos rfl (Ev.now _)))
theorem pure : PureStmt := fun n D l1 _ hD _ hl1 hr1 => (law_ev n D l1 hD hl1 (fun r h => (hr1 r h).1)).elim fun K h => ⟨K, h K (Nat.le_refl K)⟩
end Go.Proofs.YthgapkbkhoeleaaDoor.LFnExactCommonContinuation
