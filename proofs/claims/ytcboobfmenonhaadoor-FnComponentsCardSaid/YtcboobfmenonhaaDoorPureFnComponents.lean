/- For every code, FnComponents answers true: a trace is the product of its components, which are connected and do not depend on each other. No condition. -/
import Derived.Test.YtcboobfmenonhaaDoorPAllx0
import Derived.Test.YtcboobfmenonhaaDoorPAllx1
import Derived.Test.YtcboobfmenonhaaDoorPAllx4
import Derived.Test.YtcboobfmenonhaaDoorPAllx5
import Derived.Test.YtcboobfmenonhaaDoorPAllx6
import Derived.Test.YtcboobfmenonhaaDoorV0
import Derived.Test.YtcboobfmenonhaaDoorV1
import Derived.Test.YtcboobfmenonhaaDoorQBase
import Derived.Test.YtcboobfmenonhaaDoorQComp
import Derived.Test.YtcboobfmenonhaaDoorQMeet
import Derived.Test.YtcboobfmenonhaaDoorQParts
import Derived.Test.YtcboobfmenonhaaDoorQRev
import Derived.Test.YtcboobfmenonhaaDoorQTrace
import Derived.Test.YtcboobfmenonhaaDoorStmtFnComponents
set_option linter.unusedVariables false
set_option linter.unusedSimpArgs false
namespace Go.Proofs.YtcboobfmenonhaaDoor.LFnComponents
open Go.RowKit Go.Proofs.YtcboobfmenonhaaDoorW.PrintWords Go.Proofs.YtcboobfmenonhaaDoorW.PrintMore Go.Proofs.YtcboobfmenonhaaDoor.Q
open Go.Proofs.YtcboobfmenonhaaDoor.PAll
theorem rows5_ev (P : List (List Int)) (hP : P.length ≤ 1000) (h : ∀ x ∈ P, x.length ≤ 1000) : Ev (fun k => laws_likeRows5.f k P P) true := by
  have loop : ∀ (d i : Nat), i + d = P.length → Ev (fun k => laws_likeRows5.l0 k P P (i : Int)) true := by
    intro d
    induction d with
    | zero =>
      intro i hi
      refine Ev.succ ?_
      simp only [laws_likeRows5.l0]
      exact Ev.neg (by omega) (Ev.now _)
    | succ d ih =>
      intro i hi
      have e : rd_L2 P (i : Int) = P[i]'(by omega) := by
        unfold rd_L2
        rw [Int.toNat_natCast, List.getD_eq_getElem?_getD, List.getElem?_eq_getElem (by omega)]
        rfl
      have := ih (i + 1) (by omega)
      refine Ev.succ ?_
      simp only [laws_likeRows5.l0]
      refine Ev.pos (by omega) (Ev.pos (by omega) (Ev.pos (by omega) ?_))
      have hx := h _ (List.getElem_mem (show i < P.length by omega))
      rw [e, w64' (by omega)]
      exact Ev.bind (likeInts_ev _ (by omega)) (Ev.pos rfl this)
  simp only [laws_likeRows5.f]
  exact Ev.pos trivial (loop P.length 0 (by omega))
theorem conn_ev (m : Nat) (hm : m ≤ 8) (f : Nat → Nat → Bool) (hs : ∀ a b, f a b = f b a) (hA : Alpha (m : Int) (mat m f)) (u : List Nat) (hul : u.length ≤ 24) (hu : ∀ x ∈ u, x < m) :
    Ev (fun k => impl_IsConnectedTrace.f k (m : Int) (mat m f) (ints u)) (((partsW m f u).length : Int) == 1, 0) := by
  have hk := check_1 hA hul hu
  simp only [impl_IsConnectedTrace.f, impl_Alphabet_ties.f]
  have := partsOf_ev m hm f hs u (by omega) hu
  refine Ev.bind hk (Ev.pos rfl (Ev.some_bind (Ev.bind this ?_)))
  rw [List.length_map]
  exact Ev.now _
theorem indep_ev (m : Nat) (hm : m ≤ 8) (f : Nat → Nat → Bool) (hA : Alpha (m : Int) (mat m f)) (u v : List Nat) (hul : u.length ≤ 24) (hu : ∀ x ∈ u, x < m) (hvl : v.length ≤ 24) (hv : ∀ x ∈ v, x < m) :
    Ev (fun k => impl_AreIndependent.f k (m : Int) (mat m f) (ints u) (ints v)) (apartP f u v, 0) := by
  have hk := check_2 hA hul hu hvl hv
  simp only [impl_AreIndependent.f, impl_Alphabet_ties.f]
  exact Ev.bind hk (Ev.pos rfl (Ev.some_bind (Ev.bind (apart_ev m hm f u v (by omega) hu hv) (Ev.now _))))
theorem main (m : Nat) (hm : m ≤ 8) (f : Nat → Nat → Bool) (hA : Alpha (m : Int) (mat m f)) (hs : ∀ a b, f a b = f b a) (hr : ∀ a, a < m → f a a = true) (u : List Nat) (hul : u.length ≤ 24) (hu : ∀ x ∈ u, x < m) :
    Ev (fun k => laws_FnComponents.l0 k (ints u) ((partsW m f u).map ints) [] (((partsW m f u).length : Int) - 1) (m : Int) (mat m f)) true := by
  let H : List Nat := (List.range m).filter (headP m f fun a => decide (a ∈ u))
  let g : Nat → List Nat := fun a => normalP f m (u.filter (compP m f (fun b => decide (b ∈ u)) a))
  have hPdef : partsW m f u = H.map g := rfl
  have hHl : H.length ≤ 8 := by
    have := List.length_filter_le (headP m f fun a => decide (a ∈ u)) (List.range m)
    rw [List.length_range] at this
    show (List.filter _ _).length ≤ 8
    omega
  have hsub : ∀ a, ∀ x ∈ u.filter (compP m f (fun b => decide (b ∈ u)) a), x < m := fun a x hx => hu x (List.mem_filter.1 hx).1
  have hgl : ∀ a, (g a).length ≤ 24 := fun a => by
    have h1 := normalP_length f hs (hsub a)
    have h2 := List.length_filter_le (compP m f (fun b => decide (b ∈ u)) a) u
    show (normalP f m _).length ≤ 24
    omega
  have hglt : ∀ a, ∀ x ∈ g a, x < m := fun a => normalP_lt f hs (hsub a)
  have hgm : ∀ a b, b ∈ g a ↔ b ∈ u ∧ compP m f (fun b => decide (b ∈ u)) a b = true := fun a b => by
    show b ∈ normalP f m _ ↔ _
    rw [TrEq.mem f (normalP_TrEq f hs _ _ rfl (hsub a)) b, List.mem_filter]
  have hHh : ∀ a ∈ H, headP m f (fun a => decide (a ∈ u)) a = true := fun a ha => (List.mem_filter.1 ha).2
  have hHs : H.Pairwise (· < ·) := List.Pairwise.filter _ List.pairwise_lt_range
  have hwhole : TrEq f ((H.map g).reverse.flatten) u := by
    have := parts_TrEq hs hu (fun v => normalP f m v) (fun v hv => normalP_TrEq f hs _ v rfl hv) m 0 (by omega)
    have e1 : ((List.range m).filter fun h => headP m f (fun b => decide (b ∈ u)) h && decide (0 ≤ h)) = H := List.filter_congr fun x _ => by simp
    have e2 : u.filter (leftP m f (fun b => decide (b ∈ u)) 0) = u := List.filter_eq_self.2 fun x hx => by rw [leftP_zero]; exact decide_eq_true hx
    rw [e1, e2] at this
    rw [← List.map_reverse]
    exact this
  rw [hPdef]
  have hL1 : ∀ i (h : i < H.length), rd_L2 ((H.map g).map ints) (i : Int) = ints (g (H[i])) := fun i h => by
    unfold rd_L2
    rw [Int.toNat_natCast, List.getD_eq_getElem?_getD, List.getElem?_eq_getElem (by simpa using h)]
    simp
  have hlen : ((H.map g).map ints).length = H.length := by simp
  have l0 : ∀ (i : Nat), i ≤ H.length → Ev (fun k => laws_FnComponents.l0 k (ints u) ((H.map g).map ints) (ints (((H.drop i).map g).reverse.flatten)) ((i : Int) - 1) (m : Int) (mat m f)) true := by
    intro i
    induction i with
    | zero =>
      intro _
      rw [List.drop_zero]
      have hl := TrEq.length f hwhole
      have hsame := AreSameTrace_ok hm hs hA (u := (H.map g).reverse.flatten) (by omega) (fun x hx => hu x ((TrEq.mem f hwhole x).1 hx)) hul hu
      rw [decide_eq_true hwhole] at hsame
      have hcn := conn_ev m hm f hs hA u hul hu
      rw [hPdef, List.length_map] at hcn
      refine Ev.succ ?_
      simp only [laws_FnComponents.l0]
      refine Ev.neg (by omega) (Ev.bind hsame (Ev.bind hcn (Ev.pos rfl (Ev.pos rfl (Ev.pos rfl ?_)))))
      rw [hlen]
      exact Ev.const (by simp)
    | succ i ih =>
      intro hi
      have hiH : i < H.length := by omega
      have := ih (by omega)
      have e0 : ((i + 1 : Nat) : Int) - 1 = (i : Int) := by omega
      have hdrop : H.drop i = H[i] :: H.drop (i + 1) := List.drop_eq_getElem_cons hiH
      rw [hdrop, List.map_cons, List.reverse_cons, List.flatten_append, List.flatten_cons, List.flatten_nil, List.append_nil, ints_append] at this
      have hfl := flat_length ((H.drop (i + 1)).map g).reverse (fun x hx => by
        obtain ⟨a, _, rfl⟩ := List.mem_map.1 (List.mem_reverse.1 hx)
        exact hgl a)
      have hdl : ((H.drop (i + 1)).map g).reverse.length ≤ 8 := by simp; omega
      have hfl2 : ((H.drop (i + 1)).map g).reverse.length * 24 ≤ 8 * 24 := Nat.mul_le_mul_right _ hdl
      have hgi := hgl (H[i])
      have hone : (partsW m f (g (H[i]))).length = 1 := one_part hs hu (hHh _ (List.getElem_mem hiH)) (hgm _)
      have hcn := conn_ev m hm f hs hA (g (H[i])) hgi (hglt _)
      rw [hone] at hcn
      have l1 : ∀ (d j : Nat), j + d = i → Ev (fun k => laws_FnComponents.l1 k (ints u) ((H.map g).map ints) (ints (((H.drop (i + 1)).map g).reverse.flatten) ++ ints (g (H[i]))) (i : Int) (j : Int) (m : Int) (mat m f)) true := by
        intro d
        induction d with
        | zero =>
          intro j hj
          obtain rfl : j = i := by omega
          refine Ev.succ ?_
          simp only [laws_FnComponents.l1]
          refine Ev.neg (by omega) ?_
          rw [w64' (by omega)]
          exact this
        | succ d ihd =>
          intro j hj
          have hjH : j < H.length := by omega
          have hnext := ihd (j + 1) (by omega)
          have hap : apartP f (g (H[i])) (g (H[j])) = true := parts_apart hs hu (List.pairwise_iff_getElem.1 hHs j i hjH hiH (by omega)) (hHh _ (List.getElem_mem hiH)) (hHh _ (List.getElem_mem hjH)) (fun b hb => (hgm _ b).1 hb) (fun b hb => (hgm _ b).1 hb)
          have hind := indep_ev m hm f hA (g (H[i])) (g (H[j])) hgi (hglt _) (hgl _) (hglt _)
          rw [hap] at hind
          refine Ev.succ ?_
          simp only [laws_FnComponents.l1]
          refine Ev.pos (by omega) (Ev.pos (by omega) (Ev.pos (by rw [hlen]; omega) (Ev.pos (by omega) (Ev.pos (by rw [hlen]; omega) ?_))))
          rw [hL1 i hiH, hL1 j hjH, w64' (by omega)]
          exact Ev.bind hind (Ev.pos rfl (Ev.pos rfl hnext))
      rw [e0]
      refine Ev.succ ?_
      simp only [laws_FnComponents.l0]
      refine Ev.pos (by omega) (Ev.pos (by omega) (Ev.pos (by rw [hlen]; omega) ?_))
      rw [hL1 i hiH]
      refine Ev.pos (by rw [ints_length, ints_length]; omega) (Ev.some_bind (Ev.bind hcn (Ev.pos rfl (Ev.succ ?_))))
      simp only [laws_FnComponents.j2]
      refine Ev.neg (by simp) ?_
      exact l1 i 0 (by omega)
  have := l0 H.length (Nat.le_refl _)
  rw [List.drop_length] at this
  rw [List.length_map]
  exact this
theorem law_ev (c : List Int) (hb : ∀ x ∈ c, 0 ≤ x ∧ x ≤ 255) : Ev (fun k => laws_FnComponents.f k c) true := by
  simp only [laws_FnComponents.f, laws_big.f]
  refine Ev.some_bind (Ev.ite (fun _ => Ev.now _) (fun g => ?_))
  obtain ⟨a, h, n, D, w, _, hD, hwl, hd⟩ := l03Pair_ev c hb (by simp at g; omega) 8 24 (by omega) (by omega)
  have hd' : Ev (fun k => spec_DrawTraceComponents.f k c) (n, D, w) := by
    simp only [spec_DrawTraceComponents.f]
    exact Ev.bind hd (Ev.now _)
  have hc := l03Code_ev n D w w
  simp only [and_self] at hc
  have hk := checkWords_ev n D [w]
  have e : (∀ x ∈ [w], Word n x) ↔ Word n w := by simp
  simp only [e] at hk
  have bad : ∀ code : Int, code ≠ 0 → Ev (fun k => spec_l03Code.f k n D w w) code → Ev (fun k => impl_checkWords.f k n D [w]) code → Ev (fun k => (spec_DrawTraceComponents.f k c).bind fun bt => (impl_TraceComponents.f k bt.1 bt.2.1 bt.2.2).bind fun x => (spec_TraceComponents.f k bt.1 bt.2.1 bt.2.2).bind fun y => if x.2 = y.2 then (laws_likeRows5.f k x.1 y.1).bind fun t => laws_FnComponents.j0 k bt.2.2 x.1 x.2 (!t) bt.1 bt.2.1 else laws_FnComponents.j0 k bt.2.2 x.1 x.2 true bt.1 bt.2.1) true := fun code h0 h1 h2 => by
    have s1 : Ev (fun k => impl_TraceComponents.f k n D w) ([], code) := by
      simp only [impl_TraceComponents.f]
      exact Ev.bind h2 (Ev.neg h0 (Ev.now _))
    have s2 : Ev (fun k => spec_TraceComponents.f k n D w) ([], code) := by
      simp only [spec_TraceComponents.f]
      exact Ev.bind h1 (Ev.neg h0 (Ev.now _))
    refine Ev.bind hd' (Ev.bind s1 (Ev.bind s2 (Ev.pos rfl (Ev.bind (rows5_ev [] (by simp) (by simp)) (Ev.succ ?_)))))
    simp only [laws_FnComponents.j0]
    exact Ev.neg (by simp) (Ev.neg h0 (Ev.now _))
  by_cases hA : Alpha n D
  · by_cases hW : Word n w
    · rw [if_pos hA, if_pos hW] at hc hk
      obtain ⟨m, f, rfl, rfl, hm, hs, hr⟩ := hA.form
      obtain ⟨u, rfl, hul, hu⟩ := hW.form
      have s1 : Ev (fun k => impl_TraceComponents.f k (m : Int) (mat m f) (ints u)) ((partsW m f u).map ints, 0) := by
        simp only [impl_TraceComponents.f, impl_Alphabet_ties.f]
        exact Ev.bind hk (Ev.pos rfl (Ev.some_bind (Ev.bind (partsOf_ev m hm f hs u (by omega) hu) (Ev.now _))))
      have s2 : Ev (fun k => spec_TraceComponents.f k (m : Int) (mat m f) (ints u)) ((partsW m f u).map ints, 0) := by
        simp only [spec_TraceComponents.f]
        exact Ev.bind hc (Ev.pos rfl (Ev.bind (l07Parts_ev m hm f hs hr u (by omega) hu) (Ev.now _)))
      have hl : (partsW m f u).length ≤ 8 := by
        unfold partsW
        have := List.length_filter_le (headP m f fun a => decide (a ∈ u)) (List.range m)
        rw [List.length_range] at this
        rw [List.length_map]
        omega
      have hpl : ∀ x ∈ (partsW m f u).map ints, x.length ≤ 1000 := fun x hx => by
        obtain ⟨y, hy, rfl⟩ := List.mem_map.1 hx
        obtain ⟨a, _, rfl⟩ := List.mem_map.1 hy
        have h1 := normalP_length f hs (w := u.filter (compP m f (fun b => decide (b ∈ u)) a)) (fun x hx => hu x (List.mem_filter.1 hx).1)
        have h2 := List.length_filter_le (compP m f (fun b => decide (b ∈ u)) a) u
        rw [ints_length]
        omega
      refine Ev.bind hd' (Ev.bind s1 (Ev.bind s2 (Ev.pos rfl (Ev.bind (rows5_ev _ (by rw [List.length_map]; omega) hpl) (Ev.succ ?_)))))
      simp only [laws_FnComponents.j0]
      refine Ev.neg (by simp) (Ev.pos trivial ?_)
      rw [List.length_map, w64' (by omega)]
      exact main m hm f hA hs hr u hul hu
    · rw [if_pos hA, if_neg hW] at hc hk
      exact bad 2 (by decide) hc hk
  · rw [if_neg hA] at hc hk
    exact bad 1 (by decide) hc hk
theorem pure : PureStmt := fun c _ h2 => (law_ev c (fun x hx => u8_bounds (h2 x hx))).elim fun K h => ⟨K, h K (Nat.le_refl K)⟩
end Go.Proofs.YtcboobfmenonhaaDoor.LFnComponents
